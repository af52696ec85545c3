import Derived.Test.YtflmllablfjfeaaDoorFru
namespace Go.Proofs.YtflmllablfjfeaaDoor
open Go.RowKit Go.HK Go.FR
set_option linter.unusedVariables false
set_option linter.unusedSimpArgs false
set_option linter.unusedSectionVars false
theorem ev {a:Act} {t:Nat} {v:Value} (h:a.tmps[t]? = some v):a.eval (.tmp t) = v:=by simp [Act.eval,h]
def sevenV (F:Nat -> Nat):Array Value:=#[.int .u8 (F 0:Nat),.int .u8 (F 1:Nat),.int .u8 (F 2:Nat),.int .u8 (F 3:Nat),.int .u8 (F 4:Nat),.int .u8 (F 5:Nat),.int .u8 (F 6:Nat)]
theorem seven_get (F:Nat -> Nat) (k:Nat) (h:k < 7):(sevenV F)[k]? = some (.int .u8 (F k:Nat)):=by
 rcases (by omega:k = 0 ∨ k = 1 ∨ k = 2 ∨ k = 3 ∨ k = 4 ∨ k = 5 ∨ k = 6) with rfl | rfl | rfl | rfl | rfl | rfl | rfl <;> rfl
def RetMo (w:World) (kind n:Nat) (rel:List Nat) (fs:List Nat) (e:Ending) (w':World):Prop :=
 ∃ (g c fg fc:Nat),e = .returned (.agg #[.int .u8 (kind:Int),.int .i64 (n:Int),.slice (some ⟨g,0,none⟩) n c,.int .i64 0,.slice (some ⟨fg,0,none⟩) fs.length fc,.slice none 0 0,.slice none 0 0]) /\ Below w.heap.size w w' /\
  w'.ownsRow w.heap.size 3 1 (.slice (some ⟨g,0,none⟩) n c) n (ints rel) /\ w'.ownsRow w.heap.size 46 3 (.slice (some ⟨fg,0,none⟩) fs.length fc) fs.length (fcs 0 fs)
theorem own_lt9 {w:World} {b e size n:Nat} {v:Value} {xs:List Value} (h:w.ownsRow b e size v n xs):∀ g,v.ownBlock = some g -> g < w.heap.size:=fun g hg => by
 rcases h.2 with ⟨h0,h1⟩ | ⟨g',cap,cur,rfl,_,hh,_⟩
 ·rw [h0] at hg; simp [Value.ownBlock] at hg
 ·simp [Value.ownBlock] at hg
  subst hg
  exact HK.blk_lt hh
theorem set7 {w:World} {b:Nat} {c0 c1 c2 c3 c4 c5 c6:Value} {t:TypeId} (h:w.heap[b]? = some (.cells #[c0,c1,c2,c3,c4,c5,c6] t (0,0))) (v0 v1 v2 v3 v4 v5 v6:Value):(((((((w.setCell ⟨b,0,none⟩ v0).setCell ⟨b,1,none⟩ v1).setCell ⟨b,2,none⟩ v2).setCell ⟨b,3,none⟩ v3).setCell ⟨b,4,none⟩ v4).setCell ⟨b,5,none⟩ v5).setCell ⟨b,6,none⟩ v6).heap[b]? = some (.cells #[v0,v1,v2,v3,v4,v5,v6] t (0,0)):=by
 have h1:(w.setCell ⟨b,0,none⟩ v0).heap[b]? = some (.cells #[v0,c1,c2,c3,c4,c5,c6] t (0,0)):=HK.blk_set h 0 _
 have h2:((w.setCell ⟨b,0,none⟩ v0).setCell ⟨b,1,none⟩ v1).heap[b]? = some (.cells #[v0,v1,c2,c3,c4,c5,c6] t (0,0)):=HK.blk_set h1 1 _
 have h3:(((w.setCell ⟨b,0,none⟩ v0).setCell ⟨b,1,none⟩ v1).setCell ⟨b,2,none⟩ v2).heap[b]? = some (.cells #[v0,v1,v2,c3,c4,c5,c6] t (0,0)):=HK.blk_set h2 2 _
 have h4:((((w.setCell ⟨b,0,none⟩ v0).setCell ⟨b,1,none⟩ v1).setCell ⟨b,2,none⟩ v2).setCell ⟨b,3,none⟩ v3).heap[b]? = some (.cells #[v0,v1,v2,v3,c4,c5,c6] t (0,0)):=HK.blk_set h3 3 _
 have h5:(((((w.setCell ⟨b,0,none⟩ v0).setCell ⟨b,1,none⟩ v1).setCell ⟨b,2,none⟩ v2).setCell ⟨b,3,none⟩ v3).setCell ⟨b,4,none⟩ v4).heap[b]? = some (.cells #[v0,v1,v2,v3,v4,c5,c6] t (0,0)):=HK.blk_set h4 4 _
 have h6:((((((w.setCell ⟨b,0,none⟩ v0).setCell ⟨b,1,none⟩ v1).setCell ⟨b,2,none⟩ v2).setCell ⟨b,3,none⟩ v3).setCell ⟨b,4,none⟩ v4).setCell ⟨b,5,none⟩ v5).heap[b]? = some (.cells #[v0,v1,v2,v3,v4,v5,c6] t (0,0)):=HK.blk_set h5 5 _
 have h7:(((((((w.setCell ⟨b,0,none⟩ v0).setCell ⟨b,1,none⟩ v1).setCell ⟨b,2,none⟩ v2).setCell ⟨b,3,none⟩ v3).setCell ⟨b,4,none⟩ v4).setCell ⟨b,5,none⟩ v5).setCell ⟨b,6,none⟩ v6).heap[b]? = some (.cells #[v0,v1,v2,v3,v4,v5,v6] t (0,0)):=HK.blk_set h6 6 _
 exact h7
theorem frm7 (w:World) (b:Nat) (v0 v1 v2 v3 v4 v5 v6:Value):HK.Frm (fun j => j = b) w (((((((w.setCell ⟨b,0,none⟩ v0).setCell ⟨b,1,none⟩ v1).setCell ⟨b,2,none⟩ v2).setCell ⟨b,3,none⟩ v3).setCell ⟨b,4,none⟩ v4).setCell ⟨b,5,none⟩ v5).setCell ⟨b,6,none⟩ v6) :=
 (HK.Frm.setCell (p:=⟨b,6,none⟩) (HK.Frm.setCell (p:=⟨b,5,none⟩) (HK.Frm.setCell (p:=⟨b,4,none⟩) (HK.Frm.setCell (p:=⟨b,3,none⟩) (HK.Frm.setCell (p:=⟨b,2,none⟩) (HK.Frm.setCell (p:=⟨b,1,none⟩) (HK.Frm.setCell (p:=⟨b,0,none⟩) (HK.Frm.refl (fun j => j = b) w) (.inl rfl) _) (.inl rfl) _) (.inl rfl) _) (.inl rfl) _) (.inl rfl) _) (.inl rfl) _) (.inl rfl) _)
theorem isR3 {W:World} {B t:Nat} {x y z:Nat} (h:W.heap[B]? = some (.cells #[.int .i64 (x:Int),.int .i64 (y:Int),.int .i64 (z:Int)] t (0,0))):IsR W B 0 [x,y,z]:=fun i u hu => by
 rw [Nat.zero_add,HK.blk_cell h]
 match i,hu with
 | 0,hu => simp at hu; subst hu; rfl
 | 1,hu => simp at hu; subst hu; rfl
 | 2,hu => simp at hu; subst hu; rfl
 | i + 3,hu => simp at hu
end Go.Proofs.YtflmllablfjfeaaDoor
