/- The walk of the iterator over the entries from one to the root, as a contract for whoever ranges over it. -/
import Derived.Test.YthneinepdbkgeaaRows
import Derived.Test.YthneinepdbkgeaaMid
import Derived.RangeFuncNested
import Derived.RangeFuncBound
import Derived.RangeFuncCalls
import Derived.RangeFuncLeaves
import Derived.RangeFuncBox
import Derived.Shelf.Abstract
import Derived.Shelf.RegionOpen
import Derived.OwnWalkIn
import Derived.TacticsInMore
import Derived.LoopNIn
import Derived.LoopIn
namespace Go.Proofs.Ythneinepdbkgeaa
open Go.RowKit Go.HK Go.Shelf
set_option linter.unusedVariables false
set_option linter.unusedSimpArgs false
set_option linter.unusedSectionVars false
attribute [local go_sem] Oper.semAt_some

/-- What the iterator reads: the tree's nodes, their parents. -/
def UpGood (t g n cp Bn Bl : Nat) (i0 : Int) (par : Nat → Int) (W : World) : Prop :=
  W.cell? ⟨Bn, 0, none⟩ = some (.int .i64 i0) ∧ W.cell? ⟨Bl, 0, none⟩ = some (.pointer (some ⟨t, 0, none⟩)) ∧ W.cell? ⟨t, 0, none⟩ = some (.slice (some ⟨g, 0, none⟩) n cp) ∧ ∀ x, x < n → W.cell? ⟨g, x * 6, none⟩ = some (.int .i64 (par x))
/-- The entries from one to the root. -/
def IsUp (par : Nat → Int) : Int → List Nat → Prop
  | i, [] => i = -1
  | i, x :: xs => i = x ∧ IsUp par (par x) xs
def upKp (t g n cp Bn Bl : Nat) (i0 : Int) (par : Nat → Int) (W W' : World) : Prop := UpGood t g n cp Bn Bl i0 par W → UpGood t g n cp Bn Bl i0 par W'

set_option maxRecDepth 100000 in
set_option maxHeartbeats 1000000 in
theorem up_in (w : World) (t : Nat) (i : Int) (k : Nat) :
    CallsIn Fence.wide k Try.prog 59 #[.pointer (some ⟨t, 0, none⟩), .int .i64 i] w fun e w' => e = .returned (.func (.func 64) #[] #[.pointer (some ⟨w.heap.size + 1, 0, none⟩), .pointer (some ⟨w.heap.size, 0, none⟩)]) ∧
      w' = (w.alloc (.cells #[.pointer (some ⟨t, 0, none⟩)] 105)).alloc (.cells #[.int .i64 i] 3) := by
  refine callsIn_of_wp Try.func59 rfl trivial ?_ rfl
  simp only [Try.ntmps59, List.size_toArray, List.length_cons, List.length_nil, Nat.reduceAdd, Nat.reduceSub, Array.replicate_succ, Array.replicate_zero, List.push_toArray, List.append_toArray, List.nil_append, List.cons_append]
  gi_wp2
  go_ret
  exact ⟨rfl, rfl⟩

set_option maxRecDepth 100000 in
set_option maxHeartbeats 2000000 in
theorem up1_in (k : Nat) (hk : 1 ≤ k) (l t g n cp Bn Bl : Nat) (i0 : Int) (par : Nat → Int) (hn : n ≤ 1000) (hpar : ∀ x, x < n → par x < x ∧ -1 ≤ par x) (xs : List Nat) (hxs : IsUp par i0 xs) (hlt : ∀ x ∈ xs, x < n) (J Jx : List Nat → World → Prop)
    (hY : ∀ pre (x : Nat) W, x < n → J pre W → pre.length < xs.length → YieldAt Fence.wide (k - 1) Try.prog l #[.int .i64 ((x : Nat) : Int)] W fun e W' =>
      (e = .returned (.bool true) ∧ J (pre ++ [x]) W' ∧ upKp t g n cp Bn Bl i0 par W W') ∨ (e = .returned (.bool false) ∧ Jx (pre ++ [x]) W'))
    (W : World) (hG : UpGood t g n cp Bn Bl i0 par W) (h0 : J [] W) :
    CallsIn Fence.wide k Try.prog 64 #[.func (.yield l) #[] #[], .pointer (some ⟨Bn, 0, none⟩), .pointer (some ⟨Bl, 0, none⟩)] W fun e W' => (∃ v, e = .returned v) ∧
      ((∃ ys, ys = xs ∧ J ys W') ∨ (∃ pre, pre <+: xs ∧ Jx pre W')) := by
  have hb0 := hG.1
  refine callsIn_of_wp Try.func64 rfl trivial ?_ rfl
  simp only [Try.ntmps64, List.size_toArray, List.length_cons, List.length_nil, Nat.reduceAdd, Nat.reduceSub, Array.replicate_succ, Array.replicate_zero, List.push_toArray, List.append_toArray, List.nil_append, List.cons_append]
  gi_wp2
  gi_loopw [4] (fun i wr => ∃ (pre rest : List Nat) (v : Int), i = .int .i64 v ∧ xs = pre ++ rest ∧ IsUp par v rest ∧ UpGood t g n cp Bn Bl i0 par wr ∧ J pre wr)
    (fun i wr => (intOf i + 1).toNat)
  case atStart =>
    exact ⟨[], xs, i0, rfl, rfl, hxs, hG, h0⟩
  case round =>
    obtain ⟨pre, rest, v, rfl, hx, hl, hGr, hJs⟩ := hrel
    clear hb0
    cases rest with
    | nil =>
      obtain rfl : v = -1 := hl
      gi_wp2
      refine ⟨fun _ h => (by cases h), ?_⟩
      gi_wp2
      go_end0
      exact ⟨⟨_, rfl⟩, .inl ⟨pre, by simp [hx], hJs⟩⟩
    | cons x rest =>
      obtain ⟨rfl, hl⟩ := hl
      have hxn : x < n := hlt x (by rw [hx]; simp)
      obtain ⟨hp1, hp2⟩ := hpar x hxn
      obtain ⟨fn, tmps, assign, body, hy, hR⟩ := hY pre x wr hxn hJs (by rw [hx]; simp)
      have hd : (0 : Int) ≤ (x : Int) := by omega
      gi_wp2
      refine hR.mono ?_
      rintro e W3 (⟨rfl, hJ3, hk3⟩ | ⟨rfl, hJx3⟩)
      · have hG3 := hk3 hGr
        have g1 := hG3.2.1
        have g2 := hG3.2.2.1
        have g3 := hG3.2.2.2 x hxn
        have b1 : (x : Int) < (n : Int) := by omega
        clear hy hR
        gi_wp2
        go_roundw
        case rel => exact ⟨pre ++ [x], rest, par x, rfl, by simp [hx], hl, hG3, hJ3⟩
        case measure => simp [intOf]; omega
      · gi_wp2
        go_end0
        exact ⟨⟨_, rfl⟩, .inr ⟨pre ++ [x], ⟨rest, by simp [hx]⟩, hJx3⟩⟩

/-- The iterator's contract. -/
theorem up_stops (k : Nat) (hk : 1 ≤ k) (t g n cp Bn Bl : Nat) (i0 : Int) (par : Nat → Int) (hn : n ≤ 1000) (hpar : ∀ x, x < n → par x < x ∧ -1 ≤ par x) (xs : List Nat) (hxs : IsUp par i0 xs) (hlt : ∀ x ∈ xs, x < n)
    (w : World) (hG : UpGood t g n cp Bn Bl i0 par w) :
    SeqStopsK Fence.wide k Try.prog 64 #[.pointer (some ⟨Bn, 0, none⟩), .pointer (some ⟨Bl, 0, none⟩)] (fun x : Nat => #[Value.int .i64 ((x : Nat) : Int)]) (upKp t g n cp Bn Bl i0 par) (fun ys => ys = xs) (fun pre => pre <+: xs) xs.length w := by
  intro l J Jx W hW _ _ hY h0
  have lt : ∀ {a : Addr} {v : Value}, w.cell? a = some v → W.cell? a = some v := fun {a v} h => (hW.cell (p := a) (World.block_lt_of_cell? w a h)).trans h
  exact up1_in k hk l t g n cp Bn Bl i0 par hn hpar xs hxs hlt J Jx (fun pre x W _ => hY pre x W) W ⟨lt hG.1, lt hG.2.1, lt hG.2.2.1, fun x hx => lt (hG.2.2.2 x hx)⟩ h0

/-- The same, the round being told that what it is handed is the number of an entry. -/
theorem up_stopsF (k : Nat) (hk : 1 ≤ k) (t g n cp Bn Bl : Nat) (i0 : Int) (par : Nat → Int) (hn : n ≤ 1000) (hpar : ∀ x, x < n → par x < x ∧ -1 ≤ par x) (xs : List Nat) (hxs : IsUp par i0 xs) (hlt : ∀ x ∈ xs, x < n)
    (w : World) (hG : UpGood t g n cp Bn Bl i0 par w) :
    SeqStopsK Fence.wide k Try.prog 64 #[.pointer (some ⟨Bn, 0, none⟩), .pointer (some ⟨Bl, 0, none⟩)] (fun x : Fin n => #[Value.int .i64 ((x.1 : Nat) : Int)]) (upKp t g n cp Bn Bl i0 par) (fun ys => ys.map (·.1) = xs) (fun pre => pre.map (·.1) <+: xs) xs.length w := by
  intro l J Jx W hW _ _ hY h0
  have lt : ∀ {a : Addr} {v : Value}, w.cell? a = some v → W.cell? a = some v := fun {a v} h => (hW.cell (p := a) (World.block_lt_of_cell? w a h)).trans h
  refine (up1_in k hk l t g n cp Bn Bl i0 par hn hpar xs hxs hlt (fun pre W => ∃ fl : List (Fin n), fl.map (·.1) = pre ∧ J fl W) (fun pre W => ∃ fl : List (Fin n), fl.map (·.1) = pre ∧ Jx fl W) ?_ W ⟨lt hG.1, lt hG.2.1, lt hG.2.2.1, fun x hx => lt (hG.2.2.2 x hx)⟩ ⟨[], rfl, h0⟩).mono ?_
  · rintro pre x W1 hx ⟨fl, rfl, hJ⟩ hl
    refine YieldAt.mono (hY fl ⟨x, hx⟩ W1 hJ (by simpa using hl)) ?_
    rintro e W2 (⟨h1, h2, h3⟩ | ⟨h1, h2⟩)
    · exact .inl ⟨h1, ⟨_, by simp, h2⟩, h3⟩
    · exact .inr ⟨h1, ⟨_, by simp, h2⟩⟩
  · rintro e W2 ⟨hv, ⟨ys, hys, fl, hfl, hJ⟩ | ⟨pre, hpre, fl, hfl, hJ⟩⟩
    · exact ⟨hv, .inl ⟨fl, hfl.trans hys, hJ⟩⟩
    · exact ⟨hv, .inr ⟨fl, by show fl.map (·.1) <+: xs; rw [hfl]; exact hpre, hJ⟩⟩
end Go.Proofs.Ythneinepdbkgeaa
