import Derived.Test.YtflmllablfjfeaaDoorOrr
namespace Go.Proofs.YtflmllablfjfeaaDoor
open Go.RowKit Go.HK Go.FR
set_option linter.unusedVariables false
set_option linter.unusedSimpArgs false
set_option linter.unusedSectionVars false
set_option maxRecDepth 100000 in
set_option maxHeartbeats 1000000 in
theorem copy_call (w:World) (g o n c:Nat) (xs:List Nat) (hR:IsR w g o xs) (hn:xs.length = n) (hle:n <= 10000) :
  Calls Tryd.prog 35 #[.slice (some ⟨g,o,none⟩) n c] w (RetRow w xs):=by
 have HR:=Lib.hid hR
 have HN:=Lib.hid hn
 clear hR hn
 go_enter Tryd.func35,Tryd.ntmps35
 go_wp2_with (
  at_builtin
  refine wpList_app_any rfl elem25 _ _ rfl (.slice none 0 0) w.heap.size 0 [] rfl ⟨rfl,.inl ⟨rfl,rfl⟩⟩ ⟨g,o,none⟩ n c (ints xs) rfl (by rw [ints_len,HN.out]; omega) (IsR.addr HR.out) (ints_one _) (by simp only [maxLen]; omega) (by omega) (Nat.le_refl _) ?_
  intro v3 w3 hown hgrow hnil hat)
 go_ret
 rw [Nat.zero_add,List.nil_append] at hown
 exact ⟨v3,rfl,(Below.refl w.heap.size w).grown hgrow (Nat.le_refl _) (fun k hk => by cases hk),by rw [HN.out]; exact hown⟩
def NmAt (gN:Nat) (W:World):Prop:=W.heap[gN]? = some (.cells #[.string ⟨#[80]⟩,.string ⟨#[81]⟩] 9 (0,0))
theorem NmAt.up {gN:Nat} {W W':World} (h:NmAt gN W) (hB:Below W.heap.size W W'):NmAt gN W':=(hB.block _ (HK.blk_lt h)).trans h
end Go.Proofs.YtflmllablfjfeaaDoor
