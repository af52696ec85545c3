/- The plain law of ParseLevels. No program in sight. -/
import Derived.Test.YtdobflpbkfkmgaaDoorFue
import Derived.Test.YtdobflpbkfkmgaaDoorSiz
namespace Go.Proofs.YtdobflpbkfkmgaaDoor
open Go Go.RowKit Go.FR
set_option linter.unusedVariables false
set_option linter.unusedSimpArgs false
set_option linter.unusedSectionVars false
/-! ### how Size counts -/
theorem wr64 {x : Int} (h : 0 ≤ x ∧ x ≤ 9000000) : IntKind.i64.wrap x = x := by rw [IntWalk.i64_left, IntWalk.wrap64_in _ (by omega)]
theorem quN_zero {s : ByteArray} (h : s.size ≤ 16) : quN s = 0 := by
  unfold quN
  have : (s.size : Int).tdiv 40 = 0 := by
    have h1 : (s.size : Int).tdiv 40 = ((s.size / 40 : Nat) : Int) := by rw [show (40 : Int) = ((40 : Nat) : Int) from rfl, Int.ofNat_tdiv]
    rw [h1, Nat.div_eq_of_lt (by omega)]; rfl
  rw [this]
  exact wr64 (by omega)
theorem nm_sz {s : ByteArray} (h : nmB s = true) : s.size ≤ 16 := nm_len h
def SiLaw (D : Dp) (l : List Tm) : Prop := ∀ (d : Nat) (m n : Int), goodTs D d l = true → 0 ≤ m ∧ m ≤ 1000000 → 0 ≤ n → n + (nodesTs l : Int) ≤ 1000000 → n ≤ siTs l m n ∧ siTs l m n ≤ n + (nodesTs l : Int) ∧ (siTs l m n ≤ m → siTs l m n = n + (nodesTs l : Int))
mutual
theorem si_T {D : Dp} : ∀ t : Tm, SiLaw D t.args
  | .mk _ _ args => si_Ts args
theorem si_Ts {D : Dp} : ∀ l : List Tm, SiLaw D l
  | [], d, m, n, hg, hm, hn, hN => by unfold siTs nodesTs; omega
  | t :: r, d, m, n, hg, hm, hn, hN => by
    simp only [goodTs, Bool.and_eq_true] at hg
    have ih1 := si_T (D := D) t
    have ih2 := si_Ts (D := D) r
    have hq : quN t.name = 0 ∧ goodTs D (d + 1) t.args = true ∧ nodesT t = 1 + nodesTs t.args := by
      obtain ⟨v, nm, args⟩ := t
      obtain ⟨h1, h2⟩ := good_nm hg.1
      exact ⟨quN_zero (nm_sz h1), h2, by unfold nodesT; rfl⟩
    obtain ⟨hq1, hq2, hq3⟩ := hq
    unfold nodesTs at hN ⊢
    unfold siTs
    by_cases h : n ≤ m
    · rw [if_pos h, siT_eq, hq1, wr64 (x := m - n) (by omega)]
      obtain ⟨a1, a2, a3⟩ := ih1 (d + 1) (m - n) 0 hq2 (by omega) (by omega) (by omega)
      obtain ⟨v, hv⟩ : ∃ v, v = siTs t.args (m - n) 0 := ⟨_, rfl⟩
      rw [← hv] at a1 a2 a3 ⊢
      rw [wr64 (x := 1 + 0) (by omega), wr64 (x := 1 + 0 + v) (by omega), wr64 (x := n + (1 + 0 + v)) (by omega)]
      obtain ⟨b1, b2, b3⟩ := ih2 d m (n + (1 + 0 + v)) hg.2 hm (by omega) (by omega)
      omega
    · rw [if_neg h]; omega
end
theorem good_sz {D : Dp} {d op : Nat} {nm : ByteArray} {args : List Tm} {subs : List Fm} (h : GoodF D d op nm args subs) : nm.size ≤ 16 := by
  have h1 := h.op1
  have hnm := h.nm
  unfold namedB at hnm
  split at hnm
  · exact nm_sz (cap_nm hnm)
  split at hnm
  · exact nm_sz (var_nm hnm)
  split at hnm
  · exact nm_sz (fmB_nm hnm)
  · rw [named_emp hnm]; exact Nat.zero_le _
mutual
theorem si_F {D : Dp} : ∀ (f : Fm) (d : Nat) (m : Int), goodF D d f = true → 0 ≤ m ∧ m ≤ 1000000 → nodesF f ≤ 1000000 → 0 ≤ siF f m ∧ siF f m ≤ (nodesF f : Int) ∧ (siF f m ≤ m → siF f m = (nodesF f : Int))
  | .mk op nm args subs, d, m, hg, hm, hN => by
    have h := goodF_of hg
    unfold nodesF at hN ⊢
    unfold siF
    rw [quN_zero (good_sz h), wr64 (x := 1 + 0) (by omega)]
    obtain ⟨a1, a2, a3⟩ := si_Ts (D := D) args (d + 1) m 0 h.ga hm (by omega) (by omega)
    obtain ⟨v, hv⟩ : ∃ v, v = siTs args m 0 := ⟨_, rfl⟩
    rw [← hv] at a1 a2 a3 ⊢
    rw [wr64 (x := 1 + 0 + v) (by omega)]
    obtain ⟨b1, b2, b3⟩ := si_Fs (D := D) subs (d + 1) m (1 + 0 + v) h.gs hm (by omega) (by omega)
    omega
theorem si_Fs {D : Dp} : ∀ (l : List Fm) (d : Nat) (m n : Int), (∀ f ∈ l, goodF D d f = true) → 0 ≤ m ∧ m ≤ 1000000 → 0 ≤ n → n + (nodesL l : Int) ≤ 1000000 → n ≤ siFs l m n ∧ siFs l m n ≤ n + (nodesL l : Int) ∧ (siFs l m n ≤ m → siFs l m n = n + (nodesL l : Int))
  | [], d, m, n, hg, hm, hn, hN => by unfold siFs nodesL; omega
  | f :: r, d, m, n, hg, hm, hn, hN => by
    unfold nodesL at hN ⊢
    unfold siFs
    by_cases h : n ≤ m
    · rw [if_pos h, wr64 (x := m - n) (by omega)]
      obtain ⟨a1, a2, a3⟩ := si_F (D := D) f d (m - n) (hg f (by simp)) (by omega) (by omega)
      obtain ⟨v, hv⟩ : ∃ v, v = siF f (m - n) := ⟨_, rfl⟩
      rw [← hv] at a1 a2 a3 ⊢
      rw [wr64 (x := n + v) (by omega)]
      obtain ⟨b1, b2, b3⟩ := si_Fs (D := D) r d m (n + v) (fun g hg' => hg g (by simp [hg'])) hm (by omega) (by omega)
      omega
    · rw [if_neg h]; omega
end
theorem size_le {f : Fm} (h : rightF f = true) (hs : ¬ 100 < siF f 100) : nodesF f ≤ 100 := by
  obtain ⟨hg, hn⟩ := good_of_right h
  obtain ⟨_, _, h3⟩ := si_F f 1 100 hg (by omega) (by omega)
  have := h3 (by omega)
  omega
/-! ### two signs -/
/-- What is meant. -/
def wantF (i j : Nat) (u v w : Fm) : Fm := if i < j ∨ (j = i ∧ lvR i = true) then Op2 (lvO i) u (Op2 (lvO j) v w) else Op2 (lvO j) (Op2 (lvO i) u v) w
section
variable {m : Bool} {ts : List Tok}
theorem rd_two_at {n j k s kb ke : Nat} {a b : Fm} (hnj : n ≤ j) (hj : j < 5) (ha : Rd m ts .un k s (.fm a) kb) (hs : txt ts kb = lvS j) (hb : Rd m ts .un (kb + 1) (s + if lvR j = true then 1 else 0) (.fm b) ke) (he : ∀ i, n ≤ i → i < 5 → txt ts ke ≠ lvS i) : Rd m ts (.bin n) k s (.fm (Op2 (lvO j) a b)) ke := by
  have h1 : Rd m ts (.bin (j + 1)) k s (.fm a) kb := un_bin (by omega) ha fun i h1 h2 => by rw [hs]; exact lvS_inj hj h2 (by omega)
  have h2 : Rd m ts (.bin j) k s (.fm (Op2 (lvO j) a b)) ke := by
    by_cases hr : lvR j = true
    · rw [if_pos hr] at hb
      exact .binR hj hr h1 hs (un_bin (by omega) hb fun i h1 h2 => he i (by omega) h2)
    · rw [if_neg hr, Nat.add_zero] at hb
      exact .binL hj hr h1 (.loopY hs (un_bin (by omega) hb fun i h1 h2 => he i (by omega) h2) (.loopN (he j hnj hj)))
  exact climb (j - n) n (by omega) (by omega) h2 fun i h1 hi => he i h1 (by omega)
theorem rd_three {i j k s k1 k2 ke : Nat} {u v w : Fm} (hi : i < 5) (hj : j < 5) (hu : Rd m ts .un k s (.fm u) k1) (hx : txt ts k1 = lvS i) (hv : ∀ s', s' ≤ s + 2 → Rd m ts .un (k1 + 1) s' (.fm v) k2) (hy : txt ts k2 = lvS j) (hw : ∀ s', s' ≤ s + 2 → Rd m ts .un (k2 + 1) s' (.fm w) ke) (he : ∀ i, i < 5 → txt ts ke ≠ lvS i) :
    Rd m ts (.bin 0) k s (.fm (wantF i j u v w)) ke := by
  have hu1 : Rd m ts (.bin (i + 1)) k s (.fm u) k1 := un_bin (by omega) hu fun l h1 h2 => by rw [hx]; exact lvS_inj hi h2 (by omega)
  have hr2 : ∀ n s', n ≤ j → s' ≤ s + 1 → Rd m ts (.bin n) (k1 + 1) s' (.fm (Op2 (lvO j) v w)) ke := fun n s' hn hs' => rd_two_at hn hj (hv s' (by omega)) hy (hw _ (by split <;> omega)) fun l _ h2 => he l h2
  unfold wantF
  by_cases hc : i < j ∨ (j = i ∧ lvR i = true)
  · rw [if_pos hc]
    have h2 : Rd m ts (.bin i) k s (.fm (Op2 (lvO i) u (Op2 (lvO j) v w))) ke := by
      by_cases hr : lvR i = true
      · exact .binR hi hr hu1 hx (hr2 i (s + 1) (by omega) (by omega))
      · have hlt : i < j := by rcases hc with h | h; exact h; exact absurd h.2 hr
        exact .binL hi hr hu1 (.loopY hx (hr2 (i + 1) s (by omega) (by omega)) (.loopN (he i hi)))
    exact climb i 0 (by omega) (by omega) h2 fun l _ hl => he l (by omega)
  · rw [if_neg hc]
    by_cases hji : j < i
    · have hl : Rd m ts (.bin (j + 1)) k s (.fm (Op2 (lvO i) u v)) k2 := rd_two_at (by omega) hi hu hx (hv _ (by split <;> omega)) fun l h1 h2 => by rw [hy]; exact lvS_inj hj h2 (by omega)
      have h2 : Rd m ts (.bin j) k s (.fm (Op2 (lvO j) (Op2 (lvO i) u v) w)) ke := by
        by_cases hr : lvR j = true
        · exact .binR hj hr hl hy (un_bin (by omega) (hw (s + 1) (by omega)) fun l _ h2 => he l h2)
        · exact .binL hj hr hl (.loopY hy (un_bin (by omega) (hw s (by omega)) fun l _ h2 => he l h2) (.loopN (he j hj)))
      exact climb j 0 (by omega) (by omega) h2 fun l _ hl => he l (by omega)
    · obtain rfl : j = i := by omega
      have hr : ¬ lvR j = true := fun h => hc (.inr ⟨rfl, h⟩)
      have h2 : Rd m ts (.bin j) k s (.fm (Op2 (lvO j) (Op2 (lvO j) u v) w)) ke :=
        .binL hj hr hu1 (.loopY hx (un_bin (by omega) (hv s (by omega)) fun l h1 h2 => by rw [hy]; exact lvS_inj hj h2 (by omega)) (.loopY hy (un_bin (by omega) (hw s (by omega)) fun l _ h2 => he l h2) (.loopN (he j hj))))
      exact climb j 0 (by omega) (by omega) h2 fun l _ hl => he l (by omega)
/-- A formula in brackets. -/
theorem rd_brk {D : Dp} (hm : D.s = true → m = true) {f : Fm} {k s : Nat} {M : List (Int × ByteArray)} (hg : goodF D 1 f = true) (hD : D.n ≤ 40) (hs : s ≤ 20) (hA : At ts k ([(4, mkS [40])] ++ (toksF f ++ ([(4, mkS [41])] ++ M)))) : Rd m ts .un k s (.fm f) (k + 1 + (toksF f).length + 1) := by
  obtain ⟨_, t0, hA1⟩ := hA.one
  obtain ⟨_, t1, _⟩ := hA1.right.one
  have x1 := txt_mk t1
  have hd := depth_goodF f 1 hg
  have hR := rd_F (m := m) hm f 1 (k + 1) (s + 1) hg (by omega) hA1.left (by rw [x1]; decide) (by rw [x1]; decide)
  exact Rd.unB (by omega) (by rw [txt_mk t0]; decide) (Rd.par (txt_mk t0) (un_bin (i := 0) (by omega) hR fun j _ _ => by rw [x1]; exact lvS_shut j) x1)
end
def levT (z x y : Nat) (a b c : List UInt8) : List UInt8 := opS z ++ ([32] ++ ([40] ++ (a ++ ([41] ++ ([32] ++ (opS x ++ ([32] ++ ([40] ++ (b ++ ([41] ++ ([32] ++ (opS y ++ ([32] ++ ([40] ++ (c ++ [41])))))))))))))))
theorem rdF_levels {i j z : Nat} (hi : i < 5) (hj : j < 5) (hz : z = 3 ∨ z = 10 ∨ z = 11 ∨ z = 12 ∨ z = 13) {a b c : Fm} (ha : goodF ⟨40, false⟩ 1 a = true) (hb : goodF ⟨40, false⟩ 1 b = true) (hc : goodF ⟨40, false⟩ 1 c = true) :
    RdF false (levT z (lvO i) (lvO j) (fullF a) (fullF b) (fullF c)) (.ok (wantF i j (Op1 z a) b c)) := by
  have ho : ∀ l, l < 5 → 3 ≤ lvO l ∧ lvO l ≤ 14 ∧ opS (lvO l) = lvS l := fun l hl => by
    rcases (by omega : l = 0 ∨ l = 1 ∨ l = 2 ∨ l = 3 ∨ l = 4) with rfl | rfl | rfl | rfl | rfl <;> decide
  have S32 : ∀ x : List UInt8, sepL ([32] ++ x) := fun x => sep_cons (by decide)
  have S41 : ∀ x : List UInt8, sepL ([41] ++ x) := fun x => sep_cons (by decide)
  have brk : ∀ {f : Fm}, goodF ⟨40, false⟩ 1 f = true → ∀ {u : List UInt8} {K : List (Int × ByteArray)}, Lx u K anyL → Lx ([32] ++ ([40] ++ (fullF f ++ ([41] ++ u)))) ([] ++ ([(4, mkS [40])] ++ (toksF f ++ ([(4, mkS [41])] ++ K)))) anyL := fun hf _ _ hu =>
    Lx.blank.comp (Lx.open_.comp ((lx_F _ 1 hf).comp (Lx.shut.comp hu fun _ _ => trivial) fun q _ => sep_cons (by decide)) fun _ _ => trivial) fun _ _ => trivial
  have hlx : Lx (levT z (lvO i) (lvO j) (fullF a) (fullF b) (fullF c)) ([(opK z, mkS (opS z))] ++ ([] ++ ([(4, mkS [40])] ++ (toksF a ++ ([(4, mkS [41])] ++ ([] ++ ([(opK (lvO i), mkS (opS (lvO i)))] ++ ([] ++ ([(4, mkS [40])] ++ (toksF b ++ ([(4, mkS [41])] ++ ([] ++ ([(opK (lvO j), mkS (opS (lvO j)))] ++ ([] ++ ([(4, mkS [40])] ++ (toksF c ++ ([(4, mkS [41])] ++ []))))))))))))))))) anyL := by
    have e : levT z (lvO i) (lvO j) (fullF a) (fullF b) (fullF c) = opS z ++ ([32] ++ ([40] ++ (fullF a ++ ([41] ++ ([32] ++ (opS (lvO i) ++ ([32] ++ ([40] ++ (fullF b ++ ([41] ++ ([32] ++ (opS (lvO j) ++ ([32] ++ ([40] ++ (fullF c ++ ([41] ++ [])))))))))))))))) := by simp only [levT, List.append_nil]
    rw [e]
    exact (Lx.op (by omega) (by omega)).comp (brk ha (Lx.blank.comp ((Lx.op (ho i hi).1 (ho i hi).2.1).comp (brk hb (Lx.blank.comp ((Lx.op (ho j hj).1 (ho j hj).2.1).comp (brk hc (Lx.nil _)) fun q _ => S32 _) fun _ _ => trivial)) fun q _ => S32 _) fun _ _ => trivial)) fun q _ => S32 _
  obtain ⟨ts, hL, hA, h5, hx⟩ := lx_all hlx trivial
  simp only [List.nil_append] at hA h5 hx
  obtain ⟨_, t0, hA1⟩ := hA.one
  have hU := rd_brk (m := false) (D := ⟨40, false⟩) (fun h => h) (s := 1) ha (by decide) (by omega) hA1
  have hAa := (hA1.one).2.2.right
  obtain ⟨_, _, hA2⟩ := hAa.one
  obtain ⟨_, tx, hA3⟩ := hA2.one
  have hAb := (hA3.one).2.2.right
  obtain ⟨_, _, hA4⟩ := hAb.one
  obtain ⟨_, ty, hA5⟩ := hA4.one
  have hUn := Rd.unS (m := false) (ts := ts) (k := 0) (s := 0) (op := z) (by omega) (by rw [txt_mk t0]; rcases hz with rfl | rfl | rfl | rfl | rfl <;> decide) (by omega) hU
  have hT := rd_three hi hj hUn (by rw [txt_mk tx, (ho i hi).2.2]) (fun s' hs' => rd_brk (m := false) (D := ⟨40, false⟩) (fun h => h) (s := s') hb (by decide) (by omega) hA3) (by rw [txt_mk ty, (ho j hj).2.2]) (fun s' hs' => rd_brk (m := false) (D := ⟨40, false⟩) (fun h => h) (s := s') hc (by decide) (by omega) hA5)
  have hlen : ([(opK z, mkS (opS z))] ++ ([(4, mkS [40])] ++ (toksF a ++ ([(4, mkS [41])] ++ ([(opK (lvO i), mkS (opS (lvO i)))] ++ ([(4, mkS [40])] ++ (toksF b ++ ([(4, mkS [41])] ++ ([(opK (lvO j), mkS (opS (lvO j)))] ++ ([(4, mkS [40])] ++ (toksF c ++ ([(4, mkS [41])] ++ []))))))))))) : List (Int × ByteArray)).length = 0 + 1 + 1 + (toksF a).length + 1 + 1 + 1 + (toksF b).length + 1 + 1 + 1 + (toksF c).length + 1 := by
    simp only [List.length_append, List.length_cons, List.length_nil]; omega
  rw [hlen] at h5 hx
  have hR := hT fun l hl => by rw [hx]; exact nil_lv l
  obtain ⟨n, hn⟩ := rd_run hR
  have := RdF.read (m := false) hL hn
  simp only [resF, h5, if_true, fmO] at this
  exact this
end Go.Proofs.YtdobflpbkfkmgaaDoor
