/- The walk of acted. -/
import Derived.Test.YthneinepdbkgeaaActs
import Derived.Test.YthneinepdbkgeaaLed
import Derived.Deep.CutBlock
import Derived.Deep.CutRange
import Derived.Deep.RegionWith
import Derived.Deep.Slices
namespace Go.Proofs.Ythneinepdbkgeaa
open Go.RowKit Go.HK
set_option linter.unusedVariables false
set_option linter.unusedSimpArgs false
set_option linter.unusedSectionVars false
theorem info9 : (Try.prog.info? 9).map (fun i => (i.zero, i.size, i.bytes)) = some (some (.string ⟨#[]⟩), 1, 16) := by kernel_rfl
theorem elem26 : ElemOk Try.prog 26 9 1 16 := .mk' Try.underlying26 info9 rfl (by omega)
theorem rem_small (a L : Nat) (ha : a ≤ 255) : (IntKind.i64.wrap (a : Int)).tmod (L : Int) = ((a % L : Nat) : Int) := by
  have e : IntKind.i64.wrap (a : Int) = a := by
    rw [IntKind.wrap_i64]; omega
  rw [e]
  rfl
/-- The acts that a slice holds. -/
def ActsAt (w : World) (a : Addr) (n : Nat) (K A : Nat → Nat) : Prop := ∀ i, i < n → w.cell? (a.add (i * 2)) = some (.int .u8 (K i)) ∧ w.cell? (a.add (i * 2 + 1)) = some (.int .u8 (A i)) ∧ K i ≤ 255 ∧ A i ≤ 255
/-- What the switch leaves. -/
def SwR (w : World) (t k : Nat) (now0 : Nat) (st0 : ByteArray) (NS : List Nat) (SS : List ByteArray) (p q : Value) (st bad : Value) (wx : World) : Prop :=
  ∃ (F : List Nat) (s : HS) (e : Int) (x : ByteArray), AcW w t F s (k + 1) NS SS p q wx ∧ Ac (k + 1) s.1 NS SS ∧ Led s.1 s.2 ∧ st = .string x ∧ bad = .int .i64 e ∧
    ((e = 0 ∧ x = stateF s.1 s.2) ∨ (e ≠ 0 ∧ s.2 = now0 ∧ stateF s.1 s.2 = st0))
def ActedR (w : World) (e : Ending) (w' : World) : Prop := ∃ t F s m NS SS p q, e = .returned (.tuple #[.pointer (some ⟨t, 0, none⟩), p, q, .bool true]) ∧ AcW w t F s m NS SS p q w' ∧ Ac 60 s.1 NS SS ∧ Led s.1 s.2 ∧ 0 < m ∧ m ≤ 61

section
variable {w w2 : World} {t k : Nat} {F : List Nat} {s : HS} {NS : List Nat} {SS : List ByteArray} {p q : Value}
theorem acted_same (hW : AcW w t F s (k + 1) NS SS p q w2) (hAc : Ac k s.1 NS SS) (hL : Led s.1 s.2) (hk : k < 60) (st : ByteArray) (hz : st.size = 1) (hs : st = stateF s.1 s.2) :
    Calls Try.prog 17 #[.pointer (some ⟨t, 0, none⟩), .string st, .string ⟨#[]⟩, .int .i64 k] w2 fun e w' => e = .returned (.tuple #[.int .i64 0, .int .i64 240]) ∧ SwR w t k s.2 (stateF s.1 s.2) NS SS p q (.string st) (.int .i64 240) w' :=
  (do_any hW.h st ⟨#[]⟩ k (by omega) (by decide)).mono fun e w' ⟨h1, _⟩ => by
    obtain ⟨h2, h3⟩ := h1 240 (by rw [hAc.doR hW.h.1 hk, if_pos hs])
    exact ⟨h2, F, s, 240, st, hW.stay h3, hAc.more, hL, rfl, rfl, .inr ⟨by decide, rfl, rfl⟩⟩
theorem acted_new (hW : AcW w t F s (k + 1) NS SS p q w2) (hAc : Ac k s.1 NS SS) (hL : Led s.1 s.2) (hk : k < 60) (st : ByteArray) (hz : st.size = 1) (hs : st ≠ stateF s.1 s.2) :
    Calls Try.prog 17 #[.pointer (some ⟨t, 0, none⟩), .string st, .string ⟨#[]⟩, .int .i64 k] w2 fun e w' => e = .returned (.tuple #[.int .i64 s.1.length, .int .i64 0]) ∧ SwR w t k s.2 (stateF s.1 s.2) NS SS p q (.string st) (.int .i64 0) w' :=
  (do_any hW.h st ⟨#[]⟩ k (by omega) (by decide)).mono fun e w' ⟨_, h1⟩ => by
    obtain ⟨h2, h3⟩ := h1 (by rw [hAc.doR hW.h.1 hk, if_neg hs])
    obtain ⟨F', h'⟩ := hW.step (s' := doS s k st) h3
    refine ⟨h2, F', doS s k st, 0, st, h', hAc.do_ hW.h.1 st hz hs, Led.lead (hW.h.1.addN hW.h.1.now (by have := hAc.len; omega) k ⟨#[]⟩ st) (by simp), rfl, rfl, .inl ⟨rfl, ?_⟩⟩
    show st = stateF (leadL _ _ _) _
    rw [stateF_leadL, stateF_addN, if_pos (show (doS s k st).2 = s.1.length from rfl)]
theorem acted_undo (hW : AcW w t F s (k + 1) NS SS p q w2) (hAc : Ac k s.1 NS SS) (hL : Led s.1 s.2) : Calls Try.prog 15 #[.pointer (some ⟨t, 0, none⟩)] w2 fun e w' => ∃ st bad, e = .returned (.tuple #[st, bad]) ∧ SwR w t k s.2 (stateF s.1 s.2) NS SS p q st bad w' := by
  by_cases h0 : s.2 = 0
  · have hh := hW.h
    rw [h0] at hh
    exact (undo_root hh).mono fun e w' ⟨h1, h2⟩ => ⟨_, _, h1, F, s, 6, _, h2 ▸ hW, hAc.more, hL, rfl, rfl, .inr ⟨by decide, rfl, rfl⟩⟩
  · refine (undo_up hW.h h0).mono fun e w' ⟨h1, h2⟩ => ?_
    obtain ⟨F', h'⟩ := hW.step (s' := undoS s) h2
    exact ⟨_, _, h1, F', undoS s, 0, _, h', hAc.more, hL.undo hW.h.1 h0, rfl, rfl, .inl ⟨rfl, rfl⟩⟩
theorem acted_redo (hW : AcW w t F s (k + 1) NS SS p q w2) (hAc : Ac k s.1 NS SS) (hL : Led s.1 s.2) : Calls Try.prog 16 #[.pointer (some ⟨t, 0, none⟩)] w2 fun e w' => ∃ st bad, e = .returned (.tuple #[st, bad]) ∧ SwR w t k s.2 (stateF s.1 s.2) NS SS p q st bad w' := by
  rcases hW.h.1.fav s.2 hW.h.1.now with h0 | ⟨y, hy, hyl, hyp⟩
  · exact (redo_none hW.h h0).mono fun e w' ⟨h1, h2⟩ => ⟨_, _, h1, F, s, 6, _, hW.stay h2, hAc.more, hL, rfl, rfl, .inr ⟨by decide, rfl, rfl⟩⟩
  · refine (redo_down hW.h y hy hyl).mono fun e w' ⟨h1, h2⟩ => ?_
    obtain ⟨F', h'⟩ := hW.step (s' := (s.1, y)) h2
    exact ⟨_, _, h1, F', (s.1, y), 0, _, h', hAc.more, hL.redo hW.h.1 hyl hy hyp, rfl, rfl, .inl ⟨rfl, rfl⟩⟩
theorem acted_go (hW : AcW w t F s (k + 1) NS SS p q w2) (hAc : Ac k s.1 NS SS) (z : Int) (x : Nat) (hz : z = x) (hx : x < s.1.length) : Calls Try.prog 18 #[.pointer (some ⟨t, 0, none⟩), .int .i64 z] w2 fun e w' => ∃ st bad, e = .returned (.tuple #[st, bad]) ∧ SwR w t k s.2 (stateF s.1 s.2) NS SS p q st bad w' := by
  subst hz
  refine (go_yes hW.h x hx).mono fun e w' ⟨h1, h2⟩ => ?_
  obtain ⟨F', h'⟩ := hW.step (s' := goS s x) h2
  refine ⟨_, _, h1, F', goS s x, 0, _, h', (hAc.more.lead x : Ac (k + 1) (goS s x).1 NS SS), Led.lead hW.h.1 hx, rfl, rfl, .inl ⟨rfl, ?_⟩⟩
  show _ = stateF (leadL _ _ _) _
  rw [stateF_leadL]; rfl
end

theorem Ac.le {k k' : Nat} {nodes : List Go.HK.HN} {NS : List Nat} {SS : List ByteArray} (h : Ac k nodes NS SS) (hk : k ≤ k') : Ac k' nodes NS SS :=
  ⟨by have := h.len; omega, fun x hx => by have := h.tick x hx; omega, h.sz, h.rs, h.rt, h.rn, h.sn, h.up, h.his⟩
theorem owns_one {w : World} {base g : Nat} {e : TypeId} {v : Value} (hb : base ≤ g) (h : w.heap[g]? = some (.cells #[v] e (0, 0))) : w.ownsRow base e 1 (.slice (some ⟨g, 0, none⟩) 1 1) 1 [v] :=
  ⟨rfl, .inr ⟨g, 1, #[v], rfl, hb, h, Nat.le_refl _, by simp only [maxLen]; omega, rfl, rfl⟩⟩
theorem acW_start {w w1 : World} {t : Nat} {F : List Nat} (hH : Hist w1 t F (rootN ⟨#[97]⟩) 0) (hB : Below w.heap.size w w1) (hF : ∀ b ∈ F, w.heap.size ≤ b) :
    AcW w t F (rootN ⟨#[97]⟩, 0) 1 [0] [⟨#[97]⟩] (.slice (some ⟨w1.heap.size, 0, none⟩) 1 1) (.slice (some ⟨w1.heap.size + 1, 0, none⟩) 1 1) ((w1.alloc (.cells #[.int .i64 0] 3)).alloc (.cells #[.string ⟨#[97]⟩] 9)) := by
  have e2 : (w1.alloc (.cells #[.int .i64 0] 3)).heap.size = w1.heap.size + 1 := by simp
  refine ⟨hH.stay (G := fun _ => False) (((Frm.refl _ w1).alloc _).alloc _) (fun _ _ => id), (hB.alloc hB.size _).alloc (by have := hB.size; omega) _, hF, rfl, rfl, ?_, ?_, ?_, ?_, ?_⟩
  · exact owns_one hB.size (blk_alloc (blk_new w1 _) _)
  · exact owns_one (by have := hB.size; omega) (by rw [← e2]; exact blk_new _ _)
  · intro g hg hf; cases hg; have := hH.lt _ hf; simp only at this; omega
  · intro g hg hf; cases hg; have := hH.lt _ hf; simp only at this; omega
  · intro g hg e; cases hg; simp [Value.ownBlock] at e
theorem app2_q {w w4 w5 : World} {t m : Nat} {F : List Nat} {s : HS} {NS : List Nat} {SS : List ByteArray} {p q : Value} (h : AcW w t F s m NS SS p q w4) {o1 : Obj} (hgrow5 : (w4.alloc o1).grownBy w5 p.ownBlock) (o2 : Obj) : (w5.alloc o2).ownsRow 0 9 1 q m (strs SS) := by
  have ha : AcW w t F s m NS SS p q (w4.alloc o1) := h.stay ((Below.refl _ w4).alloc (Nat.le_refl _) _)
  have hF5 : Frm (fun i => p.ownBlock = some i) (w4.alloc o1) (w5.alloc o2) := ((Frm.refl _ _).grown hgrow5 (fun k hk => .inl hk)).alloc _
  exact owns_mono (hF5.owns ha.qn (fun g hg e => ha.pq g e hg)) (Nat.zero_le _)

set_option maxRecDepth 100000 in
set_option maxHeartbeats 8000000 in
theorem acted_some (w : World) (a : Addr) (n c : Nat) (K A : Nat → Nat) (hact : ActsAt w a n K A) (hn : n ≤ 9223372036854775807) : Calls Try.prog 13 #[.slice (some a) n c] w (ActedR w) := by
  have HA := Lib.hid hact
  clear hact
  go_enter Try.func13, Try.ntmps13
  go_wp2_with (go_at_call 35; refine (new_yes _ _ (by decide)).mono ?_; rintro e w1 ⟨p, rfl, t, F, rfl, hH, hB, hF, htF⟩)
  go_loopw [8, 9, 10] (fun p q i wr => ∃ (k : Nat) (F : List Nat) (s : HS) (NS : List Nat) (SS : List ByteArray), k ≤ 60 ∧ k ≤ n ∧ i = .int .i64 k ∧ AcW w t F s (k + 1) NS SS p q wr ∧ Ac k s.1 NS SS ∧ Led s.1 s.2) (fun _ _ i _ => 60 - (intOf i).toNat)
  case atStart =>
    refine ⟨0, F, (rootN ⟨#[97]⟩, 0), [0], [⟨#[97]⟩], by omega, by omega, rfl, acW_start hH hB hF, Ac.root, Led.root _⟩
  case round =>
    obtain ⟨k, F, s, NS, SS, hk60, hkn, rfl, hW, hAc, hL⟩ := hrel
    clear hH hB hF htF
    have HW := Lib.hid hW
    have HAc := Lib.hid hAc
    have HLed := Lib.hid hL
    clear hW hAc hL
    by_cases h1 : k < n
    · by_cases h2 : k < 60
      · obtain ⟨cK, cA, bK, bA⟩ := HA.out k h1
        have hb := HW.out.b
        have cK' : wr.cell? (a.add (k * 2)) = _ := (hb.cell (World.block_lt_of_cell? w _ cK)).trans cK
        have cA' : wr.cell? (a.add (k * 2 + 1)) = _ := (hb.cell (World.block_lt_of_cell? w _ cA)).trans cA
        clear cK cA hb
        have d1 : decide ((k : Int) < (n : Int)) = true := by simpa using h1
        have d2 : decide ((k : Int) < 60) = true := decide_eq_true (by omega)
        have b0 : (0 : Int) ≤ (k : Int) := by omega
        have b1 : (k : Int) < (n : Int) := by omega
        go_upto_block 2 with (go_at_call 14; refine (now_any HW.out.h).mono ?_; rintro e w2 ⟨rfl, hB2⟩; have cK2 : w2.cell? (a.add (k * 2)) = some (.int .u8 (K k)) := (hB2.cell (World.block_lt_of_cell? wr _ cK')).trans cK'; have cA2 : w2.cell? ⟨(a.add (k * 2)).block, (a.add (k * 2)).off + 1, none⟩ = some (.int .u8 (A k)) := by show w2.cell? ((a.add (k * 2)).add 1) = _; rw [Go.Deep.add_add]; exact (hB2.cell (World.block_lt_of_cell? wr _ cA')).trans cA')
        have HW2 := Lib.hid (HW.out.stay hB2)
        clear cK' cA' hB2
        go_cut [13, 14] from 39 to 105 (fun st bad wx => SwR w t k s.2 (stateF s.1 s.2) NS SS u8 u9 st bad wx)
        case first =>
          have hkk : K k % 6 = 0 ∨ K k % 6 = 1 ∨ K k % 6 = 2 ∨ K k % 6 = 3 ∨ K k % 6 = 4 ∨ K k % 6 = 5 := by omega
          rcases hkk with hkk | hkk | hkk | hkk | hkk | hkk
          · have e6 : (K k : Int) % 6 = 0 := by omega
            have haa : A k % 6 = 0 ∨ A k % 6 = 1 ∨ A k % 6 = 2 ∨ A k % 6 = 3 ∨ A k % 6 = 4 ∨ A k % 6 = 5 := by omega
            clear hkk
            rcases haa with haa | haa | haa | haa | haa | haa
            · have a6 : (A k : Int) % 6 = 0 := by omega
              have u6 : Utf8.encode 97 = ⟨#[97]⟩ := by decide +kernel
              clear haa
              by_cases hs : (⟨#[97]⟩ : ByteArray) = stateF s.1 s.2
              · have HS := Lib.hid hs
                have e5 : ((⟨#[97]⟩ : ByteArray).toList == (stateF s.1 s.2).toList) = true := by rw [← hs]; exact bytes_eq _
                rw [show (⟨#[97]⟩ : ByteArray).toList = [97] by decide +kernel] at e5
                clear hs
                go_wp2_with (go_at_call 17; refine (acted_same HW2.out HAc.out HLed.out h2 ⟨#[97]⟩ rfl HS.out).mono ?_; rintro e w3 ⟨rfl, hS⟩)
                go_meet
                case rel => exact hS
              · have HS := Lib.hid hs
                have e5 : ((⟨#[97]⟩ : ByteArray).toList == (stateF s.1 s.2).toList) = false := bytes_ne hs
                rw [show (⟨#[97]⟩ : ByteArray).toList = [97] by decide +kernel] at e5
                clear hs
                go_wp2_with (go_at_call 17; refine (acted_new HW2.out HAc.out HLed.out h2 ⟨#[97]⟩ rfl HS.out).mono ?_; rintro e w3 ⟨rfl, hS⟩)
                go_meet
                case rel => exact hS
            · have a6 : (A k : Int) % 6 = 1 := by omega
              have u6 : Utf8.encode 98 = ⟨#[98]⟩ := by decide +kernel
              clear haa
              by_cases hs : (⟨#[98]⟩ : ByteArray) = stateF s.1 s.2
              · have HS := Lib.hid hs
                have e5 : ((⟨#[98]⟩ : ByteArray).toList == (stateF s.1 s.2).toList) = true := by rw [← hs]; exact bytes_eq _
                rw [show (⟨#[98]⟩ : ByteArray).toList = [98] by decide +kernel] at e5
                clear hs
                go_wp2_with (go_at_call 17; refine (acted_same HW2.out HAc.out HLed.out h2 ⟨#[98]⟩ rfl HS.out).mono ?_; rintro e w3 ⟨rfl, hS⟩)
                go_meet
                case rel => exact hS
              · have HS := Lib.hid hs
                have e5 : ((⟨#[98]⟩ : ByteArray).toList == (stateF s.1 s.2).toList) = false := bytes_ne hs
                rw [show (⟨#[98]⟩ : ByteArray).toList = [98] by decide +kernel] at e5
                clear hs
                go_wp2_with (go_at_call 17; refine (acted_new HW2.out HAc.out HLed.out h2 ⟨#[98]⟩ rfl HS.out).mono ?_; rintro e w3 ⟨rfl, hS⟩)
                go_meet
                case rel => exact hS
            · have a6 : (A k : Int) % 6 = 2 := by omega
              have u6 : Utf8.encode 99 = ⟨#[99]⟩ := by decide +kernel
              clear haa
              by_cases hs : (⟨#[99]⟩ : ByteArray) = stateF s.1 s.2
              · have HS := Lib.hid hs
                have e5 : ((⟨#[99]⟩ : ByteArray).toList == (stateF s.1 s.2).toList) = true := by rw [← hs]; exact bytes_eq _
                rw [show (⟨#[99]⟩ : ByteArray).toList = [99] by decide +kernel] at e5
                clear hs
                go_wp2_with (go_at_call 17; refine (acted_same HW2.out HAc.out HLed.out h2 ⟨#[99]⟩ rfl HS.out).mono ?_; rintro e w3 ⟨rfl, hS⟩)
                go_meet
                case rel => exact hS
              · have HS := Lib.hid hs
                have e5 : ((⟨#[99]⟩ : ByteArray).toList == (stateF s.1 s.2).toList) = false := bytes_ne hs
                rw [show (⟨#[99]⟩ : ByteArray).toList = [99] by decide +kernel] at e5
                clear hs
                go_wp2_with (go_at_call 17; refine (acted_new HW2.out HAc.out HLed.out h2 ⟨#[99]⟩ rfl HS.out).mono ?_; rintro e w3 ⟨rfl, hS⟩)
                go_meet
                case rel => exact hS
            · have a6 : (A k : Int) % 6 = 3 := by omega
              have u6 : Utf8.encode 100 = ⟨#[100]⟩ := by decide +kernel
              clear haa
              by_cases hs : (⟨#[100]⟩ : ByteArray) = stateF s.1 s.2
              · have HS := Lib.hid hs
                have e5 : ((⟨#[100]⟩ : ByteArray).toList == (stateF s.1 s.2).toList) = true := by rw [← hs]; exact bytes_eq _
                rw [show (⟨#[100]⟩ : ByteArray).toList = [100] by decide +kernel] at e5
                clear hs
                go_wp2_with (go_at_call 17; refine (acted_same HW2.out HAc.out HLed.out h2 ⟨#[100]⟩ rfl HS.out).mono ?_; rintro e w3 ⟨rfl, hS⟩)
                go_meet
                case rel => exact hS
              · have HS := Lib.hid hs
                have e5 : ((⟨#[100]⟩ : ByteArray).toList == (stateF s.1 s.2).toList) = false := bytes_ne hs
                rw [show (⟨#[100]⟩ : ByteArray).toList = [100] by decide +kernel] at e5
                clear hs
                go_wp2_with (go_at_call 17; refine (acted_new HW2.out HAc.out HLed.out h2 ⟨#[100]⟩ rfl HS.out).mono ?_; rintro e w3 ⟨rfl, hS⟩)
                go_meet
                case rel => exact hS
            · have a6 : (A k : Int) % 6 = 4 := by omega
              have u6 : Utf8.encode 101 = ⟨#[101]⟩ := by decide +kernel
              clear haa
              by_cases hs : (⟨#[101]⟩ : ByteArray) = stateF s.1 s.2
              · have HS := Lib.hid hs
                have e5 : ((⟨#[101]⟩ : ByteArray).toList == (stateF s.1 s.2).toList) = true := by rw [← hs]; exact bytes_eq _
                rw [show (⟨#[101]⟩ : ByteArray).toList = [101] by decide +kernel] at e5
                clear hs
                go_wp2_with (go_at_call 17; refine (acted_same HW2.out HAc.out HLed.out h2 ⟨#[101]⟩ rfl HS.out).mono ?_; rintro e w3 ⟨rfl, hS⟩)
                go_meet
                case rel => exact hS
              · have HS := Lib.hid hs
                have e5 : ((⟨#[101]⟩ : ByteArray).toList == (stateF s.1 s.2).toList) = false := bytes_ne hs
                rw [show (⟨#[101]⟩ : ByteArray).toList = [101] by decide +kernel] at e5
                clear hs
                go_wp2_with (go_at_call 17; refine (acted_new HW2.out HAc.out HLed.out h2 ⟨#[101]⟩ rfl HS.out).mono ?_; rintro e w3 ⟨rfl, hS⟩)
                go_meet
                case rel => exact hS
            · have a6 : (A k : Int) % 6 = 5 := by omega
              have u6 : Utf8.encode 102 = ⟨#[102]⟩ := by decide +kernel
              clear haa
              by_cases hs : (⟨#[102]⟩ : ByteArray) = stateF s.1 s.2
              · have HS := Lib.hid hs
                have e5 : ((⟨#[102]⟩ : ByteArray).toList == (stateF s.1 s.2).toList) = true := by rw [← hs]; exact bytes_eq _
                rw [show (⟨#[102]⟩ : ByteArray).toList = [102] by decide +kernel] at e5
                clear hs
                go_wp2_with (go_at_call 17; refine (acted_same HW2.out HAc.out HLed.out h2 ⟨#[102]⟩ rfl HS.out).mono ?_; rintro e w3 ⟨rfl, hS⟩)
                go_meet
                case rel => exact hS
              · have HS := Lib.hid hs
                have e5 : ((⟨#[102]⟩ : ByteArray).toList == (stateF s.1 s.2).toList) = false := bytes_ne hs
                rw [show (⟨#[102]⟩ : ByteArray).toList = [102] by decide +kernel] at e5
                clear hs
                go_wp2_with (go_at_call 17; refine (acted_new HW2.out HAc.out HLed.out h2 ⟨#[102]⟩ rfl HS.out).mono ?_; rintro e w3 ⟨rfl, hS⟩)
                go_meet
                case rel => exact hS
          · have e6 : (K k : Int) % 6 = 1 := by omega
            have haa : A k % 6 = 0 ∨ A k % 6 = 1 ∨ A k % 6 = 2 ∨ A k % 6 = 3 ∨ A k % 6 = 4 ∨ A k % 6 = 5 := by omega
            clear hkk
            rcases haa with haa | haa | haa | haa | haa | haa
            · have a6 : (A k : Int) % 6 = 0 := by omega
              have u6 : Utf8.encode 97 = ⟨#[97]⟩ := by decide +kernel
              clear haa
              by_cases hs : (⟨#[97]⟩ : ByteArray) = stateF s.1 s.2
              · have HS := Lib.hid hs
                have e5 : ((⟨#[97]⟩ : ByteArray).toList == (stateF s.1 s.2).toList) = true := by rw [← hs]; exact bytes_eq _
                rw [show (⟨#[97]⟩ : ByteArray).toList = [97] by decide +kernel] at e5
                clear hs
                go_wp2_with (go_at_call 17; refine (acted_same HW2.out HAc.out HLed.out h2 ⟨#[97]⟩ rfl HS.out).mono ?_; rintro e w3 ⟨rfl, hS⟩)
                go_meet
                case rel => exact hS
              · have HS := Lib.hid hs
                have e5 : ((⟨#[97]⟩ : ByteArray).toList == (stateF s.1 s.2).toList) = false := bytes_ne hs
                rw [show (⟨#[97]⟩ : ByteArray).toList = [97] by decide +kernel] at e5
                clear hs
                go_wp2_with (go_at_call 17; refine (acted_new HW2.out HAc.out HLed.out h2 ⟨#[97]⟩ rfl HS.out).mono ?_; rintro e w3 ⟨rfl, hS⟩)
                go_meet
                case rel => exact hS
            · have a6 : (A k : Int) % 6 = 1 := by omega
              have u6 : Utf8.encode 98 = ⟨#[98]⟩ := by decide +kernel
              clear haa
              by_cases hs : (⟨#[98]⟩ : ByteArray) = stateF s.1 s.2
              · have HS := Lib.hid hs
                have e5 : ((⟨#[98]⟩ : ByteArray).toList == (stateF s.1 s.2).toList) = true := by rw [← hs]; exact bytes_eq _
                rw [show (⟨#[98]⟩ : ByteArray).toList = [98] by decide +kernel] at e5
                clear hs
                go_wp2_with (go_at_call 17; refine (acted_same HW2.out HAc.out HLed.out h2 ⟨#[98]⟩ rfl HS.out).mono ?_; rintro e w3 ⟨rfl, hS⟩)
                go_meet
                case rel => exact hS
              · have HS := Lib.hid hs
                have e5 : ((⟨#[98]⟩ : ByteArray).toList == (stateF s.1 s.2).toList) = false := bytes_ne hs
                rw [show (⟨#[98]⟩ : ByteArray).toList = [98] by decide +kernel] at e5
                clear hs
                go_wp2_with (go_at_call 17; refine (acted_new HW2.out HAc.out HLed.out h2 ⟨#[98]⟩ rfl HS.out).mono ?_; rintro e w3 ⟨rfl, hS⟩)
                go_meet
                case rel => exact hS
            · have a6 : (A k : Int) % 6 = 2 := by omega
              have u6 : Utf8.encode 99 = ⟨#[99]⟩ := by decide +kernel
              clear haa
              by_cases hs : (⟨#[99]⟩ : ByteArray) = stateF s.1 s.2
              · have HS := Lib.hid hs
                have e5 : ((⟨#[99]⟩ : ByteArray).toList == (stateF s.1 s.2).toList) = true := by rw [← hs]; exact bytes_eq _
                rw [show (⟨#[99]⟩ : ByteArray).toList = [99] by decide +kernel] at e5
                clear hs
                go_wp2_with (go_at_call 17; refine (acted_same HW2.out HAc.out HLed.out h2 ⟨#[99]⟩ rfl HS.out).mono ?_; rintro e w3 ⟨rfl, hS⟩)
                go_meet
                case rel => exact hS
              · have HS := Lib.hid hs
                have e5 : ((⟨#[99]⟩ : ByteArray).toList == (stateF s.1 s.2).toList) = false := bytes_ne hs
                rw [show (⟨#[99]⟩ : ByteArray).toList = [99] by decide +kernel] at e5
                clear hs
                go_wp2_with (go_at_call 17; refine (acted_new HW2.out HAc.out HLed.out h2 ⟨#[99]⟩ rfl HS.out).mono ?_; rintro e w3 ⟨rfl, hS⟩)
                go_meet
                case rel => exact hS
            · have a6 : (A k : Int) % 6 = 3 := by omega
              have u6 : Utf8.encode 100 = ⟨#[100]⟩ := by decide +kernel
              clear haa
              by_cases hs : (⟨#[100]⟩ : ByteArray) = stateF s.1 s.2
              · have HS := Lib.hid hs
                have e5 : ((⟨#[100]⟩ : ByteArray).toList == (stateF s.1 s.2).toList) = true := by rw [← hs]; exact bytes_eq _
                rw [show (⟨#[100]⟩ : ByteArray).toList = [100] by decide +kernel] at e5
                clear hs
                go_wp2_with (go_at_call 17; refine (acted_same HW2.out HAc.out HLed.out h2 ⟨#[100]⟩ rfl HS.out).mono ?_; rintro e w3 ⟨rfl, hS⟩)
                go_meet
                case rel => exact hS
              · have HS := Lib.hid hs
                have e5 : ((⟨#[100]⟩ : ByteArray).toList == (stateF s.1 s.2).toList) = false := bytes_ne hs
                rw [show (⟨#[100]⟩ : ByteArray).toList = [100] by decide +kernel] at e5
                clear hs
                go_wp2_with (go_at_call 17; refine (acted_new HW2.out HAc.out HLed.out h2 ⟨#[100]⟩ rfl HS.out).mono ?_; rintro e w3 ⟨rfl, hS⟩)
                go_meet
                case rel => exact hS
            · have a6 : (A k : Int) % 6 = 4 := by omega
              have u6 : Utf8.encode 101 = ⟨#[101]⟩ := by decide +kernel
              clear haa
              by_cases hs : (⟨#[101]⟩ : ByteArray) = stateF s.1 s.2
              · have HS := Lib.hid hs
                have e5 : ((⟨#[101]⟩ : ByteArray).toList == (stateF s.1 s.2).toList) = true := by rw [← hs]; exact bytes_eq _
                rw [show (⟨#[101]⟩ : ByteArray).toList = [101] by decide +kernel] at e5
                clear hs
                go_wp2_with (go_at_call 17; refine (acted_same HW2.out HAc.out HLed.out h2 ⟨#[101]⟩ rfl HS.out).mono ?_; rintro e w3 ⟨rfl, hS⟩)
                go_meet
                case rel => exact hS
              · have HS := Lib.hid hs
                have e5 : ((⟨#[101]⟩ : ByteArray).toList == (stateF s.1 s.2).toList) = false := bytes_ne hs
                rw [show (⟨#[101]⟩ : ByteArray).toList = [101] by decide +kernel] at e5
                clear hs
                go_wp2_with (go_at_call 17; refine (acted_new HW2.out HAc.out HLed.out h2 ⟨#[101]⟩ rfl HS.out).mono ?_; rintro e w3 ⟨rfl, hS⟩)
                go_meet
                case rel => exact hS
            · have a6 : (A k : Int) % 6 = 5 := by omega
              have u6 : Utf8.encode 102 = ⟨#[102]⟩ := by decide +kernel
              clear haa
              by_cases hs : (⟨#[102]⟩ : ByteArray) = stateF s.1 s.2
              · have HS := Lib.hid hs
                have e5 : ((⟨#[102]⟩ : ByteArray).toList == (stateF s.1 s.2).toList) = true := by rw [← hs]; exact bytes_eq _
                rw [show (⟨#[102]⟩ : ByteArray).toList = [102] by decide +kernel] at e5
                clear hs
                go_wp2_with (go_at_call 17; refine (acted_same HW2.out HAc.out HLed.out h2 ⟨#[102]⟩ rfl HS.out).mono ?_; rintro e w3 ⟨rfl, hS⟩)
                go_meet
                case rel => exact hS
              · have HS := Lib.hid hs
                have e5 : ((⟨#[102]⟩ : ByteArray).toList == (stateF s.1 s.2).toList) = false := bytes_ne hs
                rw [show (⟨#[102]⟩ : ByteArray).toList = [102] by decide +kernel] at e5
                clear hs
                go_wp2_with (go_at_call 17; refine (acted_new HW2.out HAc.out HLed.out h2 ⟨#[102]⟩ rfl HS.out).mono ?_; rintro e w3 ⟨rfl, hS⟩)
                go_meet
                case rel => exact hS
          · have e6 : (K k : Int) % 6 = 2 := by omega
            have haa : A k % 6 = 0 ∨ A k % 6 = 1 ∨ A k % 6 = 2 ∨ A k % 6 = 3 ∨ A k % 6 = 4 ∨ A k % 6 = 5 := by omega
            clear hkk
            rcases haa with haa | haa | haa | haa | haa | haa
            · have a6 : (A k : Int) % 6 = 0 := by omega
              have u6 : Utf8.encode 97 = ⟨#[97]⟩ := by decide +kernel
              clear haa
              by_cases hs : (⟨#[97]⟩ : ByteArray) = stateF s.1 s.2
              · have HS := Lib.hid hs
                have e5 : ((⟨#[97]⟩ : ByteArray).toList == (stateF s.1 s.2).toList) = true := by rw [← hs]; exact bytes_eq _
                rw [show (⟨#[97]⟩ : ByteArray).toList = [97] by decide +kernel] at e5
                clear hs
                go_wp2_with (go_at_call 17; refine (acted_same HW2.out HAc.out HLed.out h2 ⟨#[97]⟩ rfl HS.out).mono ?_; rintro e w3 ⟨rfl, hS⟩)
                go_meet
                case rel => exact hS
              · have HS := Lib.hid hs
                have e5 : ((⟨#[97]⟩ : ByteArray).toList == (stateF s.1 s.2).toList) = false := bytes_ne hs
                rw [show (⟨#[97]⟩ : ByteArray).toList = [97] by decide +kernel] at e5
                clear hs
                go_wp2_with (go_at_call 17; refine (acted_new HW2.out HAc.out HLed.out h2 ⟨#[97]⟩ rfl HS.out).mono ?_; rintro e w3 ⟨rfl, hS⟩)
                go_meet
                case rel => exact hS
            · have a6 : (A k : Int) % 6 = 1 := by omega
              have u6 : Utf8.encode 98 = ⟨#[98]⟩ := by decide +kernel
              clear haa
              by_cases hs : (⟨#[98]⟩ : ByteArray) = stateF s.1 s.2
              · have HS := Lib.hid hs
                have e5 : ((⟨#[98]⟩ : ByteArray).toList == (stateF s.1 s.2).toList) = true := by rw [← hs]; exact bytes_eq _
                rw [show (⟨#[98]⟩ : ByteArray).toList = [98] by decide +kernel] at e5
                clear hs
                go_wp2_with (go_at_call 17; refine (acted_same HW2.out HAc.out HLed.out h2 ⟨#[98]⟩ rfl HS.out).mono ?_; rintro e w3 ⟨rfl, hS⟩)
                go_meet
                case rel => exact hS
              · have HS := Lib.hid hs
                have e5 : ((⟨#[98]⟩ : ByteArray).toList == (stateF s.1 s.2).toList) = false := bytes_ne hs
                rw [show (⟨#[98]⟩ : ByteArray).toList = [98] by decide +kernel] at e5
                clear hs
                go_wp2_with (go_at_call 17; refine (acted_new HW2.out HAc.out HLed.out h2 ⟨#[98]⟩ rfl HS.out).mono ?_; rintro e w3 ⟨rfl, hS⟩)
                go_meet
                case rel => exact hS
            · have a6 : (A k : Int) % 6 = 2 := by omega
              have u6 : Utf8.encode 99 = ⟨#[99]⟩ := by decide +kernel
              clear haa
              by_cases hs : (⟨#[99]⟩ : ByteArray) = stateF s.1 s.2
              · have HS := Lib.hid hs
                have e5 : ((⟨#[99]⟩ : ByteArray).toList == (stateF s.1 s.2).toList) = true := by rw [← hs]; exact bytes_eq _
                rw [show (⟨#[99]⟩ : ByteArray).toList = [99] by decide +kernel] at e5
                clear hs
                go_wp2_with (go_at_call 17; refine (acted_same HW2.out HAc.out HLed.out h2 ⟨#[99]⟩ rfl HS.out).mono ?_; rintro e w3 ⟨rfl, hS⟩)
                go_meet
                case rel => exact hS
              · have HS := Lib.hid hs
                have e5 : ((⟨#[99]⟩ : ByteArray).toList == (stateF s.1 s.2).toList) = false := bytes_ne hs
                rw [show (⟨#[99]⟩ : ByteArray).toList = [99] by decide +kernel] at e5
                clear hs
                go_wp2_with (go_at_call 17; refine (acted_new HW2.out HAc.out HLed.out h2 ⟨#[99]⟩ rfl HS.out).mono ?_; rintro e w3 ⟨rfl, hS⟩)
                go_meet
                case rel => exact hS
            · have a6 : (A k : Int) % 6 = 3 := by omega
              have u6 : Utf8.encode 100 = ⟨#[100]⟩ := by decide +kernel
              clear haa
              by_cases hs : (⟨#[100]⟩ : ByteArray) = stateF s.1 s.2
              · have HS := Lib.hid hs
                have e5 : ((⟨#[100]⟩ : ByteArray).toList == (stateF s.1 s.2).toList) = true := by rw [← hs]; exact bytes_eq _
                rw [show (⟨#[100]⟩ : ByteArray).toList = [100] by decide +kernel] at e5
                clear hs
                go_wp2_with (go_at_call 17; refine (acted_same HW2.out HAc.out HLed.out h2 ⟨#[100]⟩ rfl HS.out).mono ?_; rintro e w3 ⟨rfl, hS⟩)
                go_meet
                case rel => exact hS
              · have HS := Lib.hid hs
                have e5 : ((⟨#[100]⟩ : ByteArray).toList == (stateF s.1 s.2).toList) = false := bytes_ne hs
                rw [show (⟨#[100]⟩ : ByteArray).toList = [100] by decide +kernel] at e5
                clear hs
                go_wp2_with (go_at_call 17; refine (acted_new HW2.out HAc.out HLed.out h2 ⟨#[100]⟩ rfl HS.out).mono ?_; rintro e w3 ⟨rfl, hS⟩)
                go_meet
                case rel => exact hS
            · have a6 : (A k : Int) % 6 = 4 := by omega
              have u6 : Utf8.encode 101 = ⟨#[101]⟩ := by decide +kernel
              clear haa
              by_cases hs : (⟨#[101]⟩ : ByteArray) = stateF s.1 s.2
              · have HS := Lib.hid hs
                have e5 : ((⟨#[101]⟩ : ByteArray).toList == (stateF s.1 s.2).toList) = true := by rw [← hs]; exact bytes_eq _
                rw [show (⟨#[101]⟩ : ByteArray).toList = [101] by decide +kernel] at e5
                clear hs
                go_wp2_with (go_at_call 17; refine (acted_same HW2.out HAc.out HLed.out h2 ⟨#[101]⟩ rfl HS.out).mono ?_; rintro e w3 ⟨rfl, hS⟩)
                go_meet
                case rel => exact hS
              · have HS := Lib.hid hs
                have e5 : ((⟨#[101]⟩ : ByteArray).toList == (stateF s.1 s.2).toList) = false := bytes_ne hs
                rw [show (⟨#[101]⟩ : ByteArray).toList = [101] by decide +kernel] at e5
                clear hs
                go_wp2_with (go_at_call 17; refine (acted_new HW2.out HAc.out HLed.out h2 ⟨#[101]⟩ rfl HS.out).mono ?_; rintro e w3 ⟨rfl, hS⟩)
                go_meet
                case rel => exact hS
            · have a6 : (A k : Int) % 6 = 5 := by omega
              have u6 : Utf8.encode 102 = ⟨#[102]⟩ := by decide +kernel
              clear haa
              by_cases hs : (⟨#[102]⟩ : ByteArray) = stateF s.1 s.2
              · have HS := Lib.hid hs
                have e5 : ((⟨#[102]⟩ : ByteArray).toList == (stateF s.1 s.2).toList) = true := by rw [← hs]; exact bytes_eq _
                rw [show (⟨#[102]⟩ : ByteArray).toList = [102] by decide +kernel] at e5
                clear hs
                go_wp2_with (go_at_call 17; refine (acted_same HW2.out HAc.out HLed.out h2 ⟨#[102]⟩ rfl HS.out).mono ?_; rintro e w3 ⟨rfl, hS⟩)
                go_meet
                case rel => exact hS
              · have HS := Lib.hid hs
                have e5 : ((⟨#[102]⟩ : ByteArray).toList == (stateF s.1 s.2).toList) = false := bytes_ne hs
                rw [show (⟨#[102]⟩ : ByteArray).toList = [102] by decide +kernel] at e5
                clear hs
                go_wp2_with (go_at_call 17; refine (acted_new HW2.out HAc.out HLed.out h2 ⟨#[102]⟩ rfl HS.out).mono ?_; rintro e w3 ⟨rfl, hS⟩)
                go_meet
                case rel => exact hS
          · have e6 : (K k : Int) % 6 = 3 := by omega
            clear hkk
            go_wp2_with (go_at_call 15; refine (acted_undo HW2.out HAc.out HLed.out).mono ?_; rintro e w3 ⟨st, bad, rfl, hS⟩)
            go_meet
            case rel => exact hS
          · have e6 : (K k : Int) % 6 = 4 := by omega
            clear hkk
            go_wp2_with (go_at_call 16; refine (acted_redo HW2.out HAc.out HLed.out).mono ?_; rintro e w3 ⟨st, bad, rfl, hS⟩)
            go_meet
            case rel => exact hS
          · have e6 : (K k : Int) % 6 = 5 := by omega
            clear hkk
            obtain ⟨L, hL⟩ : ∃ L, s.1.length = L := ⟨_, rfl⟩
            have hpos := HW2.out.h.1.pos
            rw [hL] at hpos
            have l0 : ¬ ((L : Int) = 0) := by omega
            have l1 : ¬ (L = 0) := by omega
            have HL := Lib.hid hL
            clear hL hpos
            go_wp2_with (fail)
            go_region_with (first
              | (go_at_call 20; refine (len_lit L HL.out HW2.out.h.drew).mono ?_; rintro e w3 ⟨rfl, rfl⟩)
              | (go_at_call 18; refine (acted_go (HW2.out.stay ((Below.refl _ w2).drew)) HAc.out _ (A k % L) (rem_small _ _ bA) (by rw [HL.out]; exact Nat.mod_lt _ (by omega))).mono ?_; rintro e w3 ⟨st, bad, rfl, hS⟩))
            all_goals (simp only [Exit.inBlock, Exit.then]; go_simp; go_step; go_meet; case rel => exact hS)
        case rest =>
          obtain ⟨F2, s2, e, x, hW3, hAc3, hL3, rfl, rfl, hor⟩ := hcut
          have hnow := now_any hW3.h
          have HW3 := Lib.hid hW3
          have HAc3 := Lib.hid hAc3
          have HL3 := Lib.hid hL3
          clear HW2 HW HAc HLed hW3 hAc3 hL3 cK2 cA2
          rcases hor with ⟨rfl, rfl⟩ | ⟨he, hn2, hs2⟩
          · have HN := Lib.hid hnow
            clear hnow
            go_upto_region 27 with (go_at_call 14; refine HN.out.mono ?_; rintro e w4 ⟨rfl, hB4⟩)
            have HW4 := Lib.hid (HW3.out.stay hB4)
            have hp : (w4.alloc (.cells #[.int .i64 s2.2] 3)).ownsRow 0 3 1 u8 (k + 1) (ints NS) := owns_mono (((Frm.refl (fun _ => False) w4).alloc _).owns HW4.out.pn (fun _ _ => id)) (Nat.zero_le _)
            have HP := Lib.hid hp
            clear hp hB4
            go_wp2_with (first
              | (at_builtin
                 refine wpList_app1 rfl elem25 _ _ rfl u8 (k + 1) (ints NS) rfl HP.out w4.heap.size 1 #[.int .i64 s2.2] rfl (blk_new w4 _) rfl (by simp [Value.oneCell']) (by simp only [maxLen]; omega) (by omega) ?_
                 intro gg cap w5 hown5 hgrow5 hat5 hlt5)
              | (at_builtin
                 refine wpList_app1 rfl elem26 _ _ rfl u9 (k + 1) (strs SS) rfl (app2_q HW4.out hgrow5 _) w5.heap.size 1 #[.string (stateF s2.1 s2.2)] rfl (blk_new w5 _) rfl (by simp [Value.oneCell']) (by simp only [maxLen]; omega) (by omega) ?_
                 intro gh cap' w6 hown6 hgrow6 hat6 hlt6))
            go_roundw
            case rel => exact ⟨k + 1, F2, s2, _, _, by omega, by omega, by go_num, HW4.out.app2 hown5 hgrow5 hat5 hlt5 hown6 hgrow6 hat6, HAc3.out.seen (by rw [HW4.out.nl, HW4.out.sl]) _ HW4.out.h.1.now, HL3.out⟩
            case measure => simp [intOf]; omega
          · rw [hs2, hn2] at hnow
            have HN := Lib.hid hnow
            have HS2 := Lib.hid hs2
            have HN2 := Lib.hid hn2
            have he' : (e == 0) = false := by simpa using he
            clear hnow hs2 hn2
            go_upto_region 27 with (go_at_call 14; refine HN.out.mono ?_; rintro e w4 ⟨rfl, hB4⟩)
            have HW4 := Lib.hid (HW3.out.stay hB4)
            have hp : (w4.alloc (.cells #[.int .i64 s.2] 3)).ownsRow 0 3 1 u8 (k + 1) (ints NS) := owns_mono (((Frm.refl (fun _ => False) w4).alloc _).owns HW4.out.pn (fun _ _ => id)) (Nat.zero_le _)
            have HP := Lib.hid hp
            clear hp hB4
            go_wp2_with (first
              | (at_builtin
                 refine wpList_app1 rfl elem25 _ _ rfl u8 (k + 1) (ints NS) rfl HP.out w4.heap.size 1 #[.int .i64 s.2] rfl (blk_new w4 _) rfl (by simp [Value.oneCell']) (by simp only [maxLen]; omega) (by omega) ?_
                 intro gg cap w5 hown5 hgrow5 hat5 hlt5)
              | (at_builtin
                 refine wpList_app1 rfl elem26 _ _ rfl u9 (k + 1) (strs SS) rfl (app2_q HW4.out hgrow5 _) w5.heap.size 1 #[.string (stateF s.1 s.2)] rfl (blk_new w5 _) rfl (by simp [Value.oneCell']) (by simp only [maxLen]; omega) (by omega) ?_
                 intro gh cap' w6 hown6 hgrow6 hat6 hlt6))
            go_roundw
            case rel => (have e1 := HW4.out.app2 hown5 hgrow5 hat5 hlt5 hown6 hgrow6 hat6
                         rw [← HS2.out, ← HN2.out] at e1
                         exact ⟨k + 1, F2, s2, _, _, by omega, by omega, by go_num, e1, HAc3.out.seen (by rw [HW4.out.nl, HW4.out.sl]) _ HW4.out.h.1.now, HL3.out⟩)
            case measure => simp [intOf]; omega
      · have d1 : decide ((k : Int) < (n : Int)) = true := by simpa using h1
        have d2 : decide ((k : Int) < 60) = false := decide_eq_false (by omega)
        go_wp2_with (fail)
        refine bodyPost_ret (v := .tuple #[.pointer (some ⟨t, 0, none⟩), u8, u9, .bool true]) (by simp [results, Try.results13, go_sem]) rfl ?_
        exact ⟨t, F, s, k + 1, NS, SS, u8, u9, rfl, HW.out, HAc.out.le hk60, HLed.out, by omega, by omega⟩
    · have d1 : decide ((k : Int) < (n : Int)) = false := decide_eq_false (by omega)
      go_wp2_with (fail)
      refine bodyPost_ret (v := .tuple #[.pointer (some ⟨t, 0, none⟩), u8, u9, .bool true]) (by simp [results, Try.results13, go_sem]) rfl ?_
      exact ⟨t, F, s, k + 1, NS, SS, u8, u9, rfl, HW.out, HAc.out.le hk60, HLed.out, by omega, by omega⟩
end Go.Proofs.Ythneinepdbkgeaa
