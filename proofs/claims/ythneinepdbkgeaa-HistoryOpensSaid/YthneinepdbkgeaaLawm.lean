/- HistoryOpens (9). -/
import Derived.Test.YthneinepdbkgeaaLawl
namespace Go.Proofs.Ythneinepdbkgeaa
open Go.RowKit Go.HK
set_option linter.unusedVariables false
set_option linter.unusedSimpArgs false
set_option linter.unusedSectionVars false
theorem opens_mid (w : World) (ad : Option Addr) (n c : Nat) (now : Int) (h1 : 30 < n) (h2 : n ≤ 1000) : Calls Try.prog 9 #[.slice ad n c, .int .i64 now] w (RetTr w) := by
  have HA := Lib.hid (fun W => awake_any W)
  have b0 : (30 : Int) < (n : Int) := by omega
  have b1 : (n : Int) ≤ 1000 := by omega
  go_enter Try.func9, Try.ntmps9
  go_wp2_with (go_at_call 12; (with_reducible refine (HA.out _).mono ?_); rintro e w2 ⟨rfl, hB2⟩; have HB2 := Lib.hid hB2; clear hB2)
  go_ret
  exact ⟨rfl, HB2.out⟩
theorem historyopens_walk (w : World) (ad : Option Addr) (n c : Nat) (hz : n * 48 ≤ 140737488355328) (h : (ad = none ∧ n = 0 ∧ c = 0) ∨ ∃ a es, ad = some a ∧ es.length = n ∧ EntsA w a es ∧ ∀ (j : Nat) (y : Ent), es[j]? = some y → y.state.size ≤ maxLen ∧ y.note.size ≤ maxLen) (now : Int) : Calls Try.prog 9 #[.slice ad n c, .int .i64 now] w (RetTr w) := by
  rcases Nat.eq_zero_or_pos n with h0 | h0
  · subst h0
    exact opens_nil w ad c now
  · rcases h with ⟨_, h1, _⟩ | ⟨a, es, rfl, hn, he, hsz⟩
    · omega
    · by_cases hm : 30 < n ∧ n ≤ 1000
      · exact opens_mid w _ n c now hm.1 hm.2
      · by_cases hb : n ≤ 30
        · have hro := fun W g c (h : EntsAt W g es) => ropen_any W g n c es now hn h0 (by omega) h hsz
          by_cases hS : Short es
          · by_cases hR : Right es now
            · obtain ⟨m, rfl⟩ : ∃ m : Nat, now = (m : Int) := ⟨now.toNat, by have := hR.1; omega⟩
              exact opens_ok w a n c es m hn h0 hb he hS hR
            · refine opens_err2 w a n c es now hn h0 hz he hb (fun W g c h => open_no W g n c es now h hn (by omega) hS hR) (fun W g c h => (hro W g c h).mono ?_)
              rintro e w' (⟨h1, _⟩ | ⟨_, _, h2⟩ | ⟨_, m2, _, h2, _⟩)
              · exact absurd hS h1
              · exact h2
              · exact absurd h2 hR
          · obtain ⟨i, yi, h1, h2, h3⟩ := short_first es hS
            refine opens_err3 w a n c es now hn h0 hz he hb (fun W g c h => open_long W g n c es now h hn (by omega) hsz i (fun j y hj hy => h1 j y hj hy) yi h2 h3) (fun W g c h => (hro W g c h).mono ?_)
            rintro e w' (⟨_, h2⟩ | ⟨h1, _⟩ | ⟨h1, _⟩)
            · exact h2
            · exact absurd h1 hS
            · exact absurd h1 hS
        · have hmx : n ≤ maxLen := by simp only [maxLen]; omega
          refine opens_err4 w a n c es now hn h0 hz he (by omega) (fun W g c h => (open_full W _ n c now (by omega) hmx).mono ?_) (fun W g c h => ropen_full W _ n c now (by omega) hmx)
          rintro e w' ⟨rfl, rfl⟩
          exact ⟨rfl, Below.refl _ _⟩
end Go.Proofs.Ythneinepdbkgeaa
