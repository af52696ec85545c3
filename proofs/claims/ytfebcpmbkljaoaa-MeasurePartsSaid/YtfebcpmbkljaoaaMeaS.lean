/- The walk of count: how many holes a proof has. -/
import Derived.Test.YtfebcpmbkljaoaaMeaR
namespace Go.Proofs.Ytfebcpmbkljaoaa
open Go.RowKit Go.HR
set_option linter.unusedVariables false
set_option linter.unusedSimpArgs false
set_option linter.unusedSectionVars false
mutual
def holesT : PT → Nat
  | .node r _ s => (if r = ⟨#[63]⟩ then 1 else 0) + holesF s
def holesF : List PT → Nat
  | [] => 0
  | t :: ts => holesT t + holesF ts
end
theorem holesT_eq (t : PT) : holesT t = (if t.rule = ⟨#[63]⟩ then 1 else 0) + holesF t.subs := by cases t; rw [holesT]; rfl
mutual
theorem holes_le : ∀ t : PT, holesT t ≤ sizeT t
  | .node r o s => by
    have := holesF_le s
    simp only [holesT, sizeT]; split <;> omega
theorem holesF_le : ∀ ts : List PT, holesF ts ≤ sizeF ts
  | [] => by simp [holesF]
  | t :: ts => by
    have h1 := holes_le t
    have h2 := holesF_le ts
    simp only [holesF, sizeF]; omega
end
theorem holesF_append : ∀ ts us : List PT, holesF (ts ++ us) = holesF ts + holesF us
  | [], us => by simp [holesF]
  | t :: ts, us => by simp only [List.cons_append, holesF, holesF_append ts us]; omega
theorem holesF_take {ts : List PT} {k : Nat} {t : PT} (h : ts[k]? = some t) : holesF (ts.take (k + 1)) = holesF (ts.take k) + holesT t := by
  obtain ⟨hl, he⟩ := List.getElem?_eq_some_iff.1 h
  rw [List.take_succ_eq_append_getElem hl, he, holesF_append]; simp [holesF]
theorem holesF_le_take (ts : List PT) (k : Nat) : holesF (ts.take k) ≤ holesF ts := by
  have h : holesF ts = holesF (ts.take k) + holesF (ts.drop k) := by rw [← holesF_append, List.take_append_drop]
  omega
theorem ps_addr {n0 n c k : Nat} {a : Option Addr} {W : World} {ts : List PT} {t : PT} (h : IsPs n0 W ⟨a, n, c⟩ ts) (hk : ts[k]? = some t) : ∃ g o, a = some ⟨g, o, none⟩ := by
  cases h with
  | nil a c => simp at hk
  | row g o c ts sv hg hcc hss => exact ⟨g, o, rfl⟩
set_option maxRecDepth 100000 in
set_option maxHeartbeats 4000000 in
theorem count_call (N : Nat) (hN : N ≤ 10000) : ∀ (t : PT) (sv : SL) (w : World), sizeT t ≤ N → IsPs w.heap.size w sv t.subs → Calls Try.prog 12 #[.agg (t.arr sv)] w (RetB w (.int .i64 (holesT t : Nat))) := by
  induction N with
  | zero => intro t sv w h; have := sizeT_pos t; omega
  | succ N ih =>
    intro t sv w hsz hs
    have ih' := ih (by omega)
    clear ih
    have hb := (Below.refl _ w).alloc (Nat.le_refl _) (.cells (t.arr sv) 30)
    have hle := holes_le t
    have hsF := sizeT_eq t
    obtain ⟨rule, ⟨op, name, ⟨aa, an, ac⟩, ⟨fa, fn, fc⟩, label, ⟨ma, mn, mc⟩⟩, subs⟩ := t
    obtain ⟨sa, n, sc⟩ := sv
    have hn : n = subs.length := hs.len
    simp only [PT.arr, PT.rule, PT.o, PT.subs, SL.v] at hs hb hsF ⊢
    obtain ⟨h0, hh, he⟩ : ∃ h0 : Nat, h0 = (if rule = ⟨#[63]⟩ then 1 else 0) ∧ holesT (PT.node rule ⟨op, name, ⟨aa, an, ac⟩, ⟨fa, fn, fc⟩, label, ⟨ma, mn, mc⟩⟩ subs) = h0 + holesF subs := ⟨_, rfl, by rw [holesT]⟩
    rw [he] at hle ⊢
    clear he
    have HRES := Lib.hid hh
    have HN := Lib.hid hn
    have HS := Lib.hid hs
    have HB := Lib.hid hb
    have HLE := Lib.hid hle
    have HSF := Lib.hid hsF
    have HIH := Lib.hid ih'
    have hn2 : n ≤ 10000 := by have := sizeF_len subs; omega
    have hh1 : h0 ≤ 1 := by rw [hh]; split <;> omega
    clear hn hs hb hle hsF ih' hh
    go_enter Try.func12, Try.ntmps12
    by_cases hr : rule = ⟨#[63]⟩
    · have hr0 := hr
      subst hr
      go_wp2_with (fail)
      go_loopw [3, 12] (fun r i wr => ∃ k q : Nat, k ≤ n ∧ i = .int .i64 k ∧ r = .int .i64 q ∧ q = h0 + holesF (subs.take k) ∧ Below w.heap.size w wr) (fun _ i _ => n - (intOf i).toNat)
      case atStart => exact ⟨0, h0, by omega, rfl, by rw [HRES.out]; simp [hr0], by simp [holesF], (Below.refl _ w).alloc (Nat.le_refl _) _⟩
      case round =>
        obtain ⟨k, q, hk, rfl, rfl, hq, hB⟩ := hrel
        have hqle := holesF_le_take subs k
        have hq1 : q ≤ 10001 := by have := holesF_le subs; have := HSF.out; omega
        by_cases h1 : k < n
        · obtain ⟨t2, ht2⟩ : ∃ t2, subs[k]? = some t2 := ⟨_, List.getElem?_eq_getElem (by rw [← HN.out]; exact h1)⟩
          obtain ⟨g, o, rfl⟩ := ps_addr HS.out ht2
          obtain ⟨sv2, hc, hps⟩ := row_at (HS.out.same fun j hj => hB.block j hj) ht2
          have hsz2 : sizeT t2 ≤ N := by have := sizeF_mem ht2; have := HSF.out; omega
          have hst := holesF_take ht2
          have hrec := HIH.out t2 sv2 (wr.alloc (.cells (t2.arr sv2) 30)) hsz2 ((hps.mono hB.size).up ((Below.refl _ wr).alloc (Nat.le_refl _) _))
          have hle2 := holes_le t2
          obtain ⟨c2, hc2⟩ : ∃ c2, c2 = holesT t2 := ⟨_, rfl⟩
          rw [← hc2] at hrec hst hle2
          obtain ⟨r2, ⟨op2, name2, ⟨ba, bn, bc⟩, ⟨da, dn, dc⟩, label2, ⟨na, nn, nc⟩⟩, s2⟩ := t2
          obtain ⟨ta, tn, tc⟩ := sv2
          simp only [PT.arr, PT.vals, PT.rule, PT.o, SL.v] at hc hrec
          have x0 : wr.cell? ⟨g, o + k * 8, none⟩ = some _ := hc 0 _ rfl
          have x1 : wr.cell? ⟨g, o + k * 8 + 1, none⟩ = some _ := hc 1 _ rfl
          have x2 : wr.cell? ⟨g, o + k * 8 + 2, none⟩ = some _ := hc 2 _ rfl
          have x3 : wr.cell? ⟨g, o + k * 8 + 3, none⟩ = some _ := hc 3 _ rfl
          have x4 : wr.cell? ⟨g, o + k * 8 + 4, none⟩ = some _ := hc 4 _ rfl
          have x5 : wr.cell? ⟨g, o + k * 8 + 5, none⟩ = some _ := hc 5 _ rfl
          have x6 : wr.cell? ⟨g, o + k * 8 + 6, none⟩ = some _ := hc 6 _ rfl
          have x7 : wr.cell? ⟨g, o + k * 8 + 7, none⟩ = some _ := hc 7 _ rfl
          have hq2 : c2 ≤ 10000 := by omega
          have hq3 : q + c2 = h0 + holesF (subs.take (k + 1)) := by omega
          have HREC := Lib.hid hrec
          have HB2 := Lib.hid hB
          have HQ3 := Lib.hid hq3
          have b2 : (0 : Int) ≤ (k : Int) := by omega
          have b3 : (k : Int) < (n : Int) := by omega
          clear hc hps hst hrec hle2 hc2 hq hq3 hqle ht2 hB hsz2
          go_wp2_with (go_at_call 12; (refine HREC.out.mono ?_; rintro e w' ⟨rfl, hB5⟩))
          go_roundw
          case rel => exact ⟨k + 1, q + c2, by omega, by go_num, by go_num, HQ3.out, (HB2.out.alloc HB2.out.size _).trans (hB5.mono (by have := HB2.out.size; simp; omega))⟩
          case measure => simp [intOf]; omega
        · have hkn : k = n := by omega
          have b3 : ¬ ((k : Int) < (n : Int)) := by omega
          have HQ := Lib.hid hq
          have HB2 := Lib.hid hB
          clear hq hB hqle
          go_wp2_with (fail)
          go_ret
          exact ⟨by rw [HQ.out, hkn, HN.out, List.take_length]; rfl, HB2.out⟩
    · have hr0 := hr
      have d6 := not_hole hr
      have d7 : (rule.toList == [63]) = false := beq_eq_false_iff_ne.2 d6
      go_wp2_with (fail)
      go_loopw [3, 12] (fun r i wr => ∃ k q : Nat, k ≤ n ∧ i = .int .i64 k ∧ r = .int .i64 q ∧ q = h0 + holesF (subs.take k) ∧ Below w.heap.size w wr) (fun _ i _ => n - (intOf i).toNat)
      case atStart => exact ⟨0, h0, by omega, rfl, by rw [HRES.out]; simp [hr0], by simp [holesF], (Below.refl _ w).alloc (Nat.le_refl _) _⟩
      case round =>
        obtain ⟨k, q, hk, rfl, rfl, hq, hB⟩ := hrel
        have hqle := holesF_le_take subs k
        have hq1 : q ≤ 10001 := by have := holesF_le subs; have := HSF.out; omega
        by_cases h1 : k < n
        · obtain ⟨t2, ht2⟩ : ∃ t2, subs[k]? = some t2 := ⟨_, List.getElem?_eq_getElem (by rw [← HN.out]; exact h1)⟩
          obtain ⟨g, o, rfl⟩ := ps_addr HS.out ht2
          obtain ⟨sv2, hc, hps⟩ := row_at (HS.out.same fun j hj => hB.block j hj) ht2
          have hsz2 : sizeT t2 ≤ N := by have := sizeF_mem ht2; have := HSF.out; omega
          have hst := holesF_take ht2
          have hrec := HIH.out t2 sv2 (wr.alloc (.cells (t2.arr sv2) 30)) hsz2 ((hps.mono hB.size).up ((Below.refl _ wr).alloc (Nat.le_refl _) _))
          have hle2 := holes_le t2
          obtain ⟨c2, hc2⟩ : ∃ c2, c2 = holesT t2 := ⟨_, rfl⟩
          rw [← hc2] at hrec hst hle2
          obtain ⟨r2, ⟨op2, name2, ⟨ba, bn, bc⟩, ⟨da, dn, dc⟩, label2, ⟨na, nn, nc⟩⟩, s2⟩ := t2
          obtain ⟨ta, tn, tc⟩ := sv2
          simp only [PT.arr, PT.vals, PT.rule, PT.o, SL.v] at hc hrec
          have x0 : wr.cell? ⟨g, o + k * 8, none⟩ = some _ := hc 0 _ rfl
          have x1 : wr.cell? ⟨g, o + k * 8 + 1, none⟩ = some _ := hc 1 _ rfl
          have x2 : wr.cell? ⟨g, o + k * 8 + 2, none⟩ = some _ := hc 2 _ rfl
          have x3 : wr.cell? ⟨g, o + k * 8 + 3, none⟩ = some _ := hc 3 _ rfl
          have x4 : wr.cell? ⟨g, o + k * 8 + 4, none⟩ = some _ := hc 4 _ rfl
          have x5 : wr.cell? ⟨g, o + k * 8 + 5, none⟩ = some _ := hc 5 _ rfl
          have x6 : wr.cell? ⟨g, o + k * 8 + 6, none⟩ = some _ := hc 6 _ rfl
          have x7 : wr.cell? ⟨g, o + k * 8 + 7, none⟩ = some _ := hc 7 _ rfl
          have hq2 : c2 ≤ 10000 := by omega
          have hq3 : q + c2 = h0 + holesF (subs.take (k + 1)) := by omega
          have HREC := Lib.hid hrec
          have HB2 := Lib.hid hB
          have HQ3 := Lib.hid hq3
          have b2 : (0 : Int) ≤ (k : Int) := by omega
          have b3 : (k : Int) < (n : Int) := by omega
          clear hc hps hst hrec hle2 hc2 hq hq3 hqle ht2 hB hsz2
          go_wp2_with (go_at_call 12; (refine HREC.out.mono ?_; rintro e w' ⟨rfl, hB5⟩))
          go_roundw
          case rel => exact ⟨k + 1, q + c2, by omega, by go_num, by go_num, HQ3.out, (HB2.out.alloc HB2.out.size _).trans (hB5.mono (by have := HB2.out.size; simp; omega))⟩
          case measure => simp [intOf]; omega
        · have hkn : k = n := by omega
          have b3 : ¬ ((k : Int) < (n : Int)) := by omega
          have HQ := Lib.hid hq
          have HB2 := Lib.hid hB
          clear hq hB hqle
          go_wp2_with (fail)
          go_ret
          exact ⟨by rw [HQ.out, hkn, HN.out, List.take_length]; rfl, HB2.out⟩
end Go.Proofs.Ytfebcpmbkljaoaa
