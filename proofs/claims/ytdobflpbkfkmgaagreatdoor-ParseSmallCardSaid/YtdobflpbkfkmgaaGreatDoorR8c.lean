import Derived.Test.YtdobflpbkfkmgaaGreatDoorR7a
import Derived.Test.YtdobflpbkfkmgaaGreatDoorR8m
import Derived.Test.YtdobflpbkfkmgaaGreatDoorR8b
namespace Go.Proofs.YtdobflpbkfkmgaaGreatDoor
open Go.RowKit Go.HK
theorem small4_any (w:World) (hL:LaidAll w):Calls Tryz.prog 4 #[] w (RetOk w):=by
 have hU:∀ W W':World,LaidAll W -> Below W.heap.size W W' -> LaidAll W':=fun W W' h hB => h.below hB
 have hP:∀ (W:World) (s:ByteArray),LaidAll W -> s.size <= 16384 -> Calls Tryz.prog 5 #[.string s] W (RetW W true):=fun W s hG hs => parses_any W hG s hs
 exact small_of LaidAll hU hP (nests_of LaidAll hU hP) (sizes_of LaidAll hU hP) (fun W hG => awake_any W hG.signs hG.levels hG.rows) w hL
end Go.Proofs.YtdobflpbkfkmgaaGreatDoor
