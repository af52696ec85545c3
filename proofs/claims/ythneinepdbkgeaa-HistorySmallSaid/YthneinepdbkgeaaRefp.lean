/- The plain law of the reference's favourites: what was gone to last below an entry. -/
import Derived.Test.YthneinepdbkgeaaBetwp
import Derived.Test.YthneinepdbkgeaaOpen
namespace Go.Proofs.Ythneinepdbkgeaa
open Go.RowKit Go.HK
set_option linter.unusedVariables false
set_option linter.unusedSimpArgs false
set_option linter.unusedSectionVars false
/-- The entry behind n on a way. -/
def nxtOf : List Nat → Nat → Option Nat
  | a :: b :: r, n => if a = n then some b else nxtOf (b :: r) n
  | _, _ => none
theorem nxtOf_get : ∀ {l : List Nat} {n c : Nat}, nxtOf l n = some c → ∃ k, l[k]? = some n ∧ l[k + 1]? = some c
  | a :: b :: r, n, c, h => by
    rw [nxtOf] at h
    split at h
    · rename_i e
      cases h
      exact ⟨0, by rw [e]; rfl, rfl⟩
    · obtain ⟨k, h1, h2⟩ := nxtOf_get h
      exact ⟨k + 1, h1, h2⟩
  | [_], _, _, h => by simp [nxtOf] at h
  | [], _, _, h => by simp [nxtOf] at h
theorem nxtOf_some : ∀ {l : List Nat} {n c k : Nat}, l.Nodup → l[k]? = some n → l[k + 1]? = some c → nxtOf l n = some c
  | a :: b :: r, n, c, 0, _, h1, h2 => by
    simp at h1 h2
    rw [nxtOf, if_pos h1, h2]
  | a :: b :: r, n, c, k + 1, hd, h1, h2 => by
    have hne : a ≠ n := by
      intro e
      have : n ∈ b :: r := List.mem_of_getElem? (by simpa using h1)
      exact (List.nodup_cons.1 hd).1 (e ▸ this)
    rw [nxtOf, if_neg hne]
    exact nxtOf_some (List.nodup_cons.1 hd).2 (by simpa using h1) (by simpa using h2)
  | [a], n, c, k, _, _, h2 => by simp at h2
  | [], n, c, k, _, h1, _ => by simp at h1
theorem nxtOf_none {l : List Nat} {n : Nat} (h : ∀ k c, l[k]? = some n → l[k + 1]? = some c → False) : nxtOf l n = none := by
  cases e : nxtOf l n with
  | none => rfl
  | some c =>
    obtain ⟨k, h1, h2⟩ := nxtOf_get e
    exact (h k c h1 h2).elim
/-- The favourite by what was gone to, the last one first. -/
def favR (nodes : List Go.HK.HN) : List Nat → Nat → Int
  | [], _ => -1
  | x :: xs, n => match nxtOf (wayL nodes x) n with | some c => c | none => favR nodes xs n
def favW (nodes : List Go.HK.HN) (went : List Nat) (n : Nat) : Int := favR nodes went.reverse n
theorem favW_snoc (nodes : List Go.HK.HN) (went : List Nat) (x n : Nat) : favW nodes (went ++ [x]) n = match nxtOf (wayL nodes x) n with | some c => (c : Int) | none => favW nodes went n := by
  unfold favW
  rw [List.reverse_append]
  rfl
/-- Favourites agree. -/
structure FavOk (nodes : List Go.HK.HN) (went : List Nat) : Prop where
  mem : ∀ x ∈ went, x < nodes.length
  fav : ∀ n, n < nodes.length → favW nodes went n = favF nodes n
section
variable {nodes : List Go.HK.HN} {now : Nat}
theorem wayL_nodup (h : WF nodes now) {x : Nat} (hx : x < nodes.length) : (wayL nodes x).Nodup := (wayL_asc h hx).imp (fun h => Nat.ne_of_lt h)
theorem lead_nxt (h : WF nodes now) {i : Nat} (hi : i < nodes.length) (n : Nat) : favF (lead nodes i) n = match nxtOf (wayL nodes i) n with | some c => (c : Int) | none => favF nodes n := by
  have hpar : ∀ x ∈ upL nodes i, parF nodes x < x := fun x hx => (h.par' x (upL_in h hi x hx)).1
  have hf := lead_fav (upL nodes i) nodes (-1) (upL_in h hi) hpar (chain_upF h.par' _ _ _ (by omega) (fun h => by omega)) (upL_desc h i hi)
  cases e : nxtOf (wayL nodes i) n with
  | some c =>
    obtain ⟨k, h1, h2⟩ := nxtOf_get e
    have hp := wayL_adj h hi h1 h2
    have hn : n ∈ upL nodes i := by simpa [wayL] using List.mem_of_getElem? h1
    have hc : c ∈ upL nodes i := by simpa [wayL] using List.mem_of_getElem? h2
    exact hf.2.2 c hc n hn hp
  | none =>
    simp only
    by_cases hn : n ∈ upL nodes i
    · have hw : n ∈ wayL nodes i := by simpa [wayL] using hn
      obtain ⟨k, hk, he⟩ := List.getElem_of_mem hw
      have hni : n = i := by
        have hl := wayL_last h hi
        by_cases hk1 : k + 1 < (wayL nodes i).length
        · rw [nxtOf_some (wayL_nodup h hi) (by rw [List.getElem?_eq_getElem hk, he]) (List.getElem?_eq_getElem hk1)] at e
          cases e
        · rw [show (wayL nodes i).length - 1 = k by omega, List.getElem?_eq_getElem hk, he] at hl
          exact Option.some.inj hl
      subst hni
      have e1 := upL_cons h hi
      obtain ⟨r, hr⟩ : ∃ r, r = (if parF nodes n < 0 then [] else upL nodes (parF nodes n).toNat) := ⟨_, rfl⟩
      rw [← hr] at e1
      have hd := upL_desc h n hi
      rw [e1] at hd
      have hd' := List.pairwise_cons.1 hd
      have hsub : ∀ x ∈ r, x ∈ upL nodes n := fun x hx => by rw [e1]; exact List.mem_cons_of_mem _ hx
      have hch : Chain (parF nodes) (-1) (n :: r) := by rw [← e1]; exact chain_upF h.par' _ _ _ (by omega) (fun h => by omega)
      have hg := lead_fav r nodes n (fun x hx => upL_in h hi x (hsub x hx)) (fun x hx => hpar x (hsub x hx)) hch.2 hd'.2
      have : lead nodes n = leadL nodes n r := by
        unfold lead
        rw [e1]
        rfl
      rw [this]
      exact hg.1 n (fun hx => by have := hd'.1 n hx; omega)
    · exact hf.1 n hn
theorem wayL_parF {a b : List Go.HK.HN} (hp : parF a = parF b) (i : Nat) : wayL a i = wayL b i := by unfold wayL; rw [upL_parF hp]
theorem favR_parF {a b : List Go.HK.HN} (hp : parF a = parF b) : ∀ (l : List Nat) (n : Nat), favR a l n = favR b l n
  | [], _ => rfl
  | x :: xs, n => by simp only [favR, wayL_parF hp, favR_parF hp xs]
theorem parF_lead (nodes : List Go.HK.HN) (i : Nat) : parF (lead nodes i) = parF nodes := parF_leadL _ _ _
/-- Going to an entry. -/
theorem FavOk.go (h : WF nodes now) {went : List Nat} (hf : FavOk nodes went) {i : Nat} (hi : i < nodes.length) : FavOk (lead nodes i) (went ++ [i]) where
  mem := fun x hx => by
    rw [lead_length]
    rcases List.mem_append.1 hx with hx | hx
    · exact hf.mem x hx
    · rw [List.mem_singleton.1 hx]; exact hi
  fav := fun n hn => by
    rw [lead_length] at hn
    rw [favW_snoc, lead_nxt h hi, wayL_parF (parF_lead nodes i)]
    cases nxtOf (wayL nodes i) n with
    | some c => rfl
    | none => exact (favR_parF (parF_lead nodes i) _ _).trans (hf.fav n hn)
theorem upF_congr {par par' : Nat → Int} {m : Nat} (hpar : ∀ x, x < m → par x < x ∧ -1 ≤ par x) (he : ∀ x, x < m → par' x = par x) : ∀ (f : Nat) (i : Int), i < m → upF par' f i = upF par f i
  | 0, _, _ => rfl
  | f + 1, i, hi => by
    simp only [upF]
    by_cases h0 : i < 0
    · rw [if_pos h0, if_pos h0]
    · rw [if_neg h0, if_neg h0, he i.toNat (by omega)]
      have := hpar i.toNat (by omega)
      rw [upF_congr hpar he f _ (by omega)]
theorem wayL_addN (h : WF nodes now) (par : Nat) (tick : Int) (note state : ByteArray) {x : Nat} (hx : x < nodes.length) : wayL (addN nodes par tick note state) x = wayL nodes x := by
  unfold wayL upL
  rw [upF_congr h.par' (fun y hy => by rw [parF_addN, if_neg (by omega)]) _ _ (by omega)]
theorem favR_addN (h : WF nodes now) (par : Nat) (tick : Int) (note state : ByteArray) : ∀ (l : List Nat) (n : Nat), (∀ x ∈ l, x < nodes.length) → favR (addN nodes par tick note state) l n = favR nodes l n
  | [], _, _ => rfl
  | x :: xs, n, hl => by
    simp only [favR, wayL_addN h par tick note state (hl x (by simp)), favR_addN h par tick note state xs n (fun y hy => hl y (by simp [hy]))]
theorem favR_out (h : WF nodes now) : ∀ (l : List Nat) (n : Nat), (∀ x ∈ l, x < nodes.length) → nodes.length ≤ n → favR nodes l n = -1
  | [], _, _, _ => rfl
  | x :: xs, n, hl, hn => by
    have : nxtOf (wayL nodes x) n = none := nxtOf_none fun k c h1 _ => by
      have := wayL_in h (hl x (by simp)) n (List.mem_of_getElem? h1)
      omega
    simp only [favR, this]
    exact favR_out h xs n (fun y hy => hl y (by simp [hy])) hn
/-- A new entry. -/
theorem FavOk.add (h : WF nodes now) {went : List Nat} (hf : FavOk nodes went) (hle : nodes.length < 1000) {par : Nat} (hp : par < nodes.length) (tick : Int) (note state : ByteArray) :
    FavOk (lead (addN nodes par tick note state) nodes.length) (went ++ [nodes.length]) where
  mem := fun x hx => by
    rw [lead_length, addN_length]
    rcases List.mem_append.1 hx with hx | hx
    · have := hf.mem x hx; omega
    · rw [List.mem_singleton.1 hx]; omega
  fav := fun n hn => by
    rw [lead_length, addN_length] at hn
    have h1 := h.addN hp hle tick note state
    have hl1 : nodes.length < (addN nodes par tick note state).length := by rw [addN_length]; omega
    rw [favW_snoc, lead_nxt h1 hl1, wayL_parF (parF_lead _ _)]
    cases e : nxtOf (wayL (addN nodes par tick note state) nodes.length) n with
    | some c => rfl
    | none =>
      simp only
      unfold favW
      rw [favR_parF (parF_lead _ _), favR_addN h _ _ _ _ _ _ (fun x hx => hf.mem x (List.mem_reverse.1 hx)), favF_addN _ _ _ _ _ hp]
      by_cases e1 : n = nodes.length
      · rw [if_pos e1]
        exact favR_out h _ _ (fun x hx => hf.mem x (List.mem_reverse.1 hx)) (by omega)
      · rw [if_neg e1]
        by_cases e2 : n = par
        · exfalso
          subst e2
          have hw := wayL_step h1 hl1 (by have := h.pos; omega)
          have hpn : (parF (addN nodes n tick note state) nodes.length).toNat = n := by rw [parF_addN, if_pos rfl]; simp
          rw [hpn] at hw
          have hlast := wayL_last h1 (x := n) (by omega)
          have hlen : 0 < (wayL (addN nodes n tick note state) n).length := by
            rcases Nat.eq_zero_or_pos (wayL (addN nodes n tick note state) n).length with h0 | h0
            · rw [List.length_eq_zero_iff.1 h0] at hlast; simp at hlast
            · exact h0
          have := nxtOf_some (c := nodes.length) (wayL_nodup h1 hl1) (k := (wayL (addN nodes n tick note state) n).length - 1) (n := n) (by rw [hw, List.getElem?_append_left (by omega)]; exact hlast) (by rw [hw, show (wayL (addN nodes n tick note state) n).length - 1 + 1 = (wayL (addN nodes n tick note state) n).length by omega]; simp)
          rw [this] at e
          cases e
        · rw [if_neg e2]
          exact hf.fav n (by omega)
end
end Go.Proofs.Ythneinepdbkgeaa
namespace Go.Proofs.Ythneinepdbkgeaa
open Go.RowKit Go.HK
set_option linter.unusedVariables false
set_option linter.unusedSimpArgs false
set_option linter.unusedSectionVars false
/-- A way comes ahead of another one. -/
def ahd : List Nat → List Nat → Bool
  | [], [] => false
  | [], _ :: _ => true
  | _ :: _, [] => false
  | a :: u1, b :: u2 => if a = b then ahd u1 u2 else decide (a < b)
theorem ahd_irr : ∀ a : List Nat, ahd a a = false
  | [] => rfl
  | a :: u1 => by rw [ahd, if_pos rfl]; exact ahd_irr u1
theorem ahd_asymm : ∀ {a b : List Nat}, ahd a b = true → ahd b a = false
  | [], [], h => by simp [ahd] at h
  | [], _ :: _, _ => rfl
  | _ :: _, [], h => by simp [ahd] at h
  | a :: u1, b :: u2, h => by
    rw [ahd] at h ⊢
    by_cases e : a = b
    · rw [if_pos e] at h; rw [if_pos e.symm]; exact ahd_asymm h
    · rw [if_neg e] at h
      rw [if_neg (fun x => e x.symm)]
      simp at h ⊢
      omega
theorem ahd_trans : ∀ {a b c : List Nat}, ahd a b = true → ahd b c = true → ahd a c = true
  | [], _, _ :: _, _, _ => rfl
  | [], [], [], h, _ => by simp [ahd] at h
  | [], _ :: _, [], _, h => by simp [ahd] at h
  | _ :: _, [], _, h, _ => by simp [ahd] at h
  | _ :: _, _ :: _, [], _, h => by simp [ahd] at h
  | a :: u1, b :: u2, c :: u3, h1, h2 => by
    rw [ahd] at h1 h2 ⊢
    by_cases e1 : a = b
    · rw [if_pos e1] at h1
      by_cases e2 : b = c
      · rw [if_pos e2] at h2
        rw [if_pos (e1.trans e2)]
        exact ahd_trans h1 h2
      · rw [if_neg e2] at h2
        rw [if_neg (fun x => e2 (e1.symm.trans x)), e1]
        exact h2
    · rw [if_neg e1] at h1
      by_cases e2 : b = c
      · rw [if_neg (fun x => e1 (x.trans e2.symm)), ← e2]
        exact h1
      · rw [if_neg e2] at h2
        simp at h1 h2
        rw [if_neg (by omega)]
        simp; omega
theorem ahd_pre : ∀ (p : List Nat) {a b : Nat} (r s : List Nat), a < b → ahd (p ++ a :: r) (p ++ b :: s) = true
  | [], a, b, r, s, h => by
    show ahd (a :: r) (b :: s) = true
    rw [ahd, if_neg (by omega)]
    simpa using h
  | x :: p, a, b, r, s, h => by
    show ahd (x :: (p ++ a :: r)) (x :: (p ++ b :: s)) = true
    rw [ahd, if_pos rfl]
    exact ahd_pre p r s h
/-- The loop's way to say it: by the first place in which they differ. -/
theorem ahd_at : ∀ {a b : List Nat} {i : Nat}, (∀ k, k < i → a[k]? = b[k]?) → i < a.length → i < b.length → a[i]? ≠ b[i]? → ahd a b = decide (a.getD i 0 < b.getD i 0)
  | a :: u1, b :: u2, 0, _, _, _, h => by
    have : a ≠ b := fun e => h (by simp [e])
    rw [ahd, if_neg this]
    rfl
  | a :: u1, b :: u2, i + 1, hk, h1, h2, h => by
    have e : a = b := by simpa using hk 0 (by omega)
    rw [ahd, if_pos e, ahd_at (i := i) (fun k hk' => by simpa using hk (k + 1) (by omega)) (by simpa using h1) (by simpa using h2) (by simpa using h)]
    rfl
  | [], _, _, _, h, _, _ => by simp at h
  | _ :: _, [], _, _, _, h, _ => by simp at h
theorem ahd_end : ∀ {a b : List Nat}, (∀ k, k < a.length → k < b.length → a[k]? = b[k]?) → ahd a b = decide (a.length < b.length)
  | [], [], _ => rfl
  | [], _ :: _, _ => by simp [ahd]
  | _ :: _, [], _ => by simp [ahd]
  | a :: u1, b :: u2, h => by
    have e : a = b := by simpa using h 0 (by simp) (by simp)
    rw [ahd, if_pos e, ahd_end (fun k h1 h2 => by simpa using h (k + 1) (by simpa using h1) (by simpa using h2))]
    simp
/-- What exchanging leaves: behind i rounds, and k places of the next one. -/
def Ord (W : Nat → List Nat) (l : List Nat) (i : Nat) : Prop := ∀ (a b x y : Nat), a < i → a < b → l[a]? = some x → l[b]? = some y → ahd (W y) (W x) = false
def OrdK (W : Nat → List Nat) (l : List Nat) (i k : Nat) : Prop := Ord W l i ∧ ∀ (b x y : Nat), i < b → b < k → l[i]? = some x → l[b]? = some y → ahd (W y) (W x) = false
theorem OrdK.start {W : Nat → List Nat} {l : List Nat} {i : Nat} (h : Ord W l i) : OrdK W l i (i + 1) := ⟨h, fun b x y h1 h2 => by omega⟩
theorem OrdK.done {W : Nat → List Nat} {l : List Nat} {i k : Nat} (h : OrdK W l i k) (hk : l.length ≤ k) : Ord W l (i + 1) := fun a b x y ha hb hx hy => by
  by_cases e : a = i
  · subst e
    exact h.2 b x y hb (by have := (List.getElem?_eq_some_iff.1 hy).1; omega) hx hy
  · exact h.1 a b x y (by omega) hb hx hy
theorem OrdK.next {W : Nat → List Nat} {l : List Nat} {i k x y : Nat} (h : OrdK W l i k) (hik : i < k) (hx : l[i]? = some x) (hy : l[k]? = some y) (hn : ahd (W y) (W x) = false) : OrdK W l i (k + 1) :=
  ⟨h.1, fun b x' y' h1 h2 hx' hy' => by
    by_cases e : b = k
    · subst e
      rw [hx] at hx'
      rw [hy] at hy'
      cases hx'; cases hy'
      exact hn
    · exact h.2 b x' y' h1 (by omega) hx' hy'⟩
theorem swap_get {l : List Nat} {i k x y : Nat} (hik : i < k) (hx : l[i]? = some x) (hy : l[k]? = some y) (j : Nat) : ((l.set i y).set k x)[j]? = if j = i then some y else if j = k then some x else l[j]? := by
  have h1 := (List.getElem?_eq_some_iff.1 hx).1
  have h2 := (List.getElem?_eq_some_iff.1 hy).1
  rw [List.getElem?_set, List.getElem?_set]
  simp only [List.length_set]
  by_cases e1 : k = j
  · subst e1
    rw [if_pos rfl, if_pos h2, if_neg (by omega), if_pos rfl]
  · rw [if_neg e1]
    by_cases e2 : i = j
    · subst e2
      rw [if_pos rfl, if_pos h1, if_pos rfl]
    · rw [if_neg e2, if_neg (fun h => e2 h.symm), if_neg (fun h => e1 h.symm)]
theorem OrdK.swap {W : Nat → List Nat} {l : List Nat} {i k x y : Nat} (h : OrdK W l i k) (hik : i < k) (hx : l[i]? = some x) (hy : l[k]? = some y) (hn : ahd (W y) (W x) = true) : OrdK W ((l.set i y).set k x) i (k + 1) := by
  refine ⟨fun a b u v ha hab hu hv => ?_, fun b u v h1 h2 hu hv => ?_⟩
  · rw [swap_get hik hx hy, if_neg (by omega), if_neg (by omega)] at hu
    rw [swap_get hik hx hy] at hv
    by_cases e1 : b = i
    · rw [if_pos e1] at hv
      cases hv
      exact h.1 a k u y ha (by omega) hu hy
    · rw [if_neg e1] at hv
      by_cases e2 : b = k
      · rw [if_pos e2] at hv
        cases hv
        exact h.1 a i u x ha ha hu hx
      · rw [if_neg e2] at hv
        exact h.1 a b u v ha hab hu hv
  · rw [swap_get hik hx hy, if_pos rfl] at hu
    cases hu
    rw [swap_get hik hx hy, if_neg (by omega)] at hv
    by_cases e2 : b = k
    · rw [if_pos e2] at hv
      cases hv
      exact ahd_asymm hn
    · rw [if_neg e2] at hv
      cases e : ahd (W v) (W y) with
      | false => rfl
      | true =>
        have := h.2 b x v h1 (by omega) hx hv
        rw [ahd_trans e hn] at this
        cases this
theorem swap_mem {l : List Nat} {i k x y : Nat} (hik : i < k) (hx : l[i]? = some x) (hy : l[k]? = some y) (z : Nat) : z ∈ (l.set i y).set k x ↔ z ∈ l := by
  constructor
  · intro h
    obtain ⟨j, hj⟩ := List.mem_iff_getElem?.1 h
    rw [swap_get hik hx hy] at hj
    split at hj
    · cases hj; exact List.mem_of_getElem? hy
    · split at hj
      · cases hj; exact List.mem_of_getElem? hx
      · exact List.mem_of_getElem? hj
  · intro h
    obtain ⟨j, hj⟩ := List.mem_iff_getElem?.1 h
    refine List.mem_iff_getElem?.2 ?_
    by_cases e1 : j = i
    · subst e1
      rw [hx] at hj
      cases hj
      exact ⟨k, by rw [swap_get hik hx hy, if_neg (by omega), if_pos rfl]⟩
    · by_cases e2 : j = k
      · subst e2
        rw [hy] at hj
        cases hj
        exact ⟨i, by rw [swap_get hik hx hy, if_pos rfl]⟩
      · exact ⟨j, by rw [swap_get hik hx hy, if_neg e1, if_neg e2]; exact hj⟩
section
variable {nodes : List Go.HK.HN} {now : Nat}
theorem way_split (h : WF nodes now) {x n c : Nat} (hx : x < nodes.length) (hn : nxtOf (wayL nodes x) n = some c) : c < nodes.length ∧ parF nodes c = n ∧ ∃ r, wayL nodes x = wayL nodes n ++ c :: r := by
  obtain ⟨k, h1, h2⟩ := nxtOf_get hn
  have hc := wayL_in h hx c (List.mem_of_getElem? h2)
  refine ⟨hc, wayL_adj h hx h1 h2, (wayL nodes x).drop (k + 2), ?_⟩
  have e := wayL_pre h x hx k n h1
  have hl := (List.getElem?_eq_some_iff.1 h2).1
  rw [← e]
  conv => lhs; rw [← List.take_append_drop (k + 1) (wayL nodes x)]
  congr 1
  rw [List.drop_eq_getElem_cons hl]
  congr 1
  exact Option.some.inj ((List.getElem?_eq_getElem hl).symm.trans h2)
theorem nxt_child (h : WF nodes now) {c n : Nat} (hc : c < nodes.length) (hp : parF nodes c = n) : nxtOf (wayL nodes c) n = some c := by
  have h0 : c ≠ 0 := by
    intro e
    rw [e, h.root] at hp
    omega
  have hpar := h.par c (by omega) hc
  have e := wayL_step h hc h0
  have en : (parF nodes c).toNat = n := by omega
  rw [en] at e
  have hl := wayL_last h (x := n) (by omega)
  have hlen : 0 < (wayL nodes n).length := by
    rcases Nat.eq_zero_or_pos (wayL nodes n).length with h0 | h0
    · rw [List.length_eq_zero_iff.1 h0] at hl; simp at hl
    · exact h0
  refine nxtOf_some (wayL_nodup h hc) (k := (wayL nodes n).length - 1) ?_ ?_
  · rw [e, List.getElem?_append_left (by omega)]; exact hl
  · rw [e, show (wayL nodes n).length - 1 + 1 = (wayL nodes n).length by omega]; simp
/-- In an ordered list what is below n last is below n's last child. -/
theorem favR_last (h : WF nodes now) : ∀ (l : List Nat) (n c : Nat), (∀ x ∈ l, x < nodes.length) → (∀ (a b x y : Nat), a < b → l[a]? = some x → l[b]? = some y → ahd (wayL nodes x) (wayL nodes y) = false) →
    c ∈ l → parF nodes c = n → (∀ d, d < nodes.length → parF nodes d = n → d ≤ c) → favR nodes l n = c
  | x :: xs, n, c, hl, ho, hc, hp, hm => by
    have hx := hl x (by simp)
    simp only [favR]
    cases e : nxtOf (wayL nodes x) n with
    | some d =>
      obtain ⟨hd, hdp, r, hr⟩ := way_split h hx e
      simp only
      have hdc := hm d hd hdp
      by_cases hdce : d = c
      · rw [hdce]
      · exfalso
        have hcx : c ≠ x := by
          intro ec
          subst ec
          rw [nxt_child h hx hp] at e
          cases e
          exact hdce rfl
        obtain ⟨b, hb⟩ := List.mem_iff_getElem?.1 (List.mem_of_ne_of_mem hcx hc)
        have h1 := ho 0 (b + 1) x c (by omega) rfl (by simpa using hb)
        have hcl := hl c hc
        obtain ⟨_, _, s, hs⟩ := way_split h hcl (nxt_child h hcl hp)
        rw [hr, hs, ahd_pre _ r s (by omega)] at h1
        cases h1
    | none =>
      simp only
      have hcx : c ≠ x := by
        intro ec
        subst ec
        rw [nxt_child h hx hp] at e
        cases e
      exact favR_last h xs n c (fun y hy => hl y (by simp [hy])) (fun a b u v hab hu hv => ho (a + 1) (b + 1) u v (by omega) (by simpa using hu) (by simpa using hv)) (List.mem_of_ne_of_mem hcx hc) hp hm
theorem favR_leaf (h : WF nodes now) : ∀ (l : List Nat) (n : Nat), (∀ x ∈ l, x < nodes.length) → (∀ d, d < nodes.length → parF nodes d ≠ n) → favR nodes l n = -1
  | [], _, _, _ => rfl
  | x :: xs, n, hl, hm => by
    have : nxtOf (wayL nodes x) n = none := by
      cases e : nxtOf (wayL nodes x) n with
      | none => rfl
      | some d =>
        obtain ⟨hd, hdp, _⟩ := way_split h (hl x (by simp)) e
        exact absurd hdp (hm d hd)
    simp only [favR, this]
    exact favR_leaf h xs n (fun y hy => hl y (by simp [hy])) hm
end
/-- Entries added one after the other: the favourite is the last child. -/
def LastFav (nodes : List Go.HK.HN) : Prop := ∀ n, n < nodes.length → (favF nodes n = -1 ∧ ∀ d, d < nodes.length → parF nodes d ≠ n) ∨ ∃ c : Nat, favF nodes n = c ∧ c < nodes.length ∧ parF nodes c = n ∧ ∀ d, d < nodes.length → parF nodes d = n → d ≤ c
theorem LastFav.add {nodes : List Go.HK.HN} {now : Nat} (h : WF nodes now) (hl : LastFav nodes) {par : Nat} (hp : par < nodes.length) (tick : Int) (note state : ByteArray) : LastFav (addN nodes par tick note state) := fun n hn => by
  rw [addN_length] at hn
  rw [favF_addN _ _ _ _ _ hp]
  by_cases e1 : n = nodes.length
  · rw [if_pos e1]
    refine .inl ⟨rfl, fun d hd => ?_⟩
    rw [addN_length] at hd
    rw [parF_addN]
    by_cases e2 : d = nodes.length
    · rw [if_pos e2]; omega
    · rw [if_neg e2]
      have := h.par' d (by omega)
      omega
  · rw [if_neg e1]
    by_cases e2 : n = par
    · rw [if_pos e2]
      refine .inr ⟨nodes.length, rfl, by rw [addN_length]; omega, by rw [parF_addN, if_pos rfl, e2], fun d hd _ => ?_⟩
      rw [addN_length] at hd
      omega
    · rw [if_neg e2]
      rcases hl n (by omega) with ⟨h1, h2⟩ | ⟨c, h1, h2, h3, h4⟩
      · refine .inl ⟨h1, fun d hd => ?_⟩
        rw [addN_length] at hd
        rw [parF_addN]
        by_cases e3 : d = nodes.length
        · rw [if_pos e3]; omega
        · rw [if_neg e3]; exact h2 d (by omega)
      · refine .inr ⟨c, h1, by rw [addN_length]; omega, by rw [parF_addN, if_neg (by omega)]; exact h3, fun d hd hd2 => ?_⟩
        rw [addN_length] at hd
        rw [parF_addN] at hd2
        by_cases e3 : d = nodes.length
        · rw [if_pos e3] at hd2; omega
        · rw [if_neg e3] at hd2; exact h4 d (by omega) hd2
theorem addAll_last {es : List Ent} {now : Int} (hR : Right es now) (hle : es.length ≤ 1000) : ∀ k, 0 < k → k ≤ es.length → LastFav (addAll (es.take k)) := by
  intro k
  induction k with
  | zero => intro h; omega
  | succ k ih =>
    intro _ hk
    obtain ⟨x, hx⟩ : ∃ x, es[k]? = some x := ⟨_, List.getElem?_eq_getElem (by omega)⟩
    have hok := hR.2.2 k x hx
    have ht : es.take (k + 1) = es.take k ++ [x] := by rw [List.take_add_one, hx]; rfl
    have hat := addAll_take hR hle k (by omega)
    rw [ht, addAll_snoc]
    unfold addE
    unfold okAt at hok
    split
    · rename_i h0
      have hk0 : k = 0 := by have := hat.2.1; omega
      rw [if_pos hk0] at hok
      intro n hn
      have hn0 : n = 0 := by simp at hn; omega
      subst hn0
      refine .inl ⟨rfl, fun d hd => ?_⟩
      have hd0 : d = 0 := by simp at hd; omega
      subst hd0
      simp [parF, hok.1]
    · rename_i h0
      have hk0 : ¬ k = 0 := by have := hat.2.1; omega
      rw [if_neg hk0] at hok
      have hlen := hat.2.1
      exact (ih (by omega) (by omega)).add (hat.2.2 (by omega)) (by have := hok.1; have := hok.2.1; omega) _ _ _
/-- What Open leaves: favourites agree. -/
theorem FavOk.opened {es : List Ent} {now : Nat} (hR : Right es now) (hle : es.length ≤ 1000) {l : List Nat} (hl : ∀ x ∈ l, x < es.length) (hall : ∀ x, x < es.length → x ∈ l) (ho : ∀ (a b x y : Nat), a < b → l[a]? = some x → l[b]? = some y → ahd (wayL (addAll es) y) (wayL (addAll es) x) = false) : FavOk (openN es now) (l ++ [now]) := by
  have hpos : 0 < es.length := by have := hR.2.1; omega
  have hat := addAll_take hR hle es.length (Nat.le_refl _)
  have hlast := addAll_last hR hle es.length hpos (Nat.le_refl _)
  rw [List.take_length] at hat hlast
  obtain ⟨_, hlen, hwf⟩ := hat
  have hwf := hwf hpos
  refine FavOk.go hwf ⟨fun x hx => by rw [hlen]; exact hl x hx, fun n hn => ?_⟩ (by rw [hlen]; have := hR.2.1; omega)
  unfold favW
  have hl' : ∀ x ∈ l.reverse, x < (addAll es).length := fun x hx => by rw [hlen]; exact hl x (List.mem_reverse.1 hx)
  rcases hlast n hn with ⟨h1, h2⟩ | ⟨c, h1, h2, h3, h4⟩
  · rw [h1]; exact favR_leaf hwf _ n hl' h2
  · rw [h1]
    refine favR_last hwf _ n c hl' (fun a b x y hab hx hy => ?_) (List.mem_reverse.2 (hall c (by omega))) h3 h4
    have hla := (List.getElem?_eq_some_iff.1 hx).1
    have hlb := (List.getElem?_eq_some_iff.1 hy).1
    rw [List.length_reverse] at hla hlb
    rw [List.getElem?_reverse hla] at hx
    rw [List.getElem?_reverse hlb] at hy
    exact ho _ _ y x (by omega) hy hx
end Go.Proofs.Ythneinepdbkgeaa
