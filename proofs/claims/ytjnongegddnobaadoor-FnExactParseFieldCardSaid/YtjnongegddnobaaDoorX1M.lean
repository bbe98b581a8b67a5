/- Where the library keeps its limit. -/
import Derived.Test.YtjnongegddnobaaDoorTy
namespace Go.Proofs.YtjnongegddnobaaDoor
open Go.Vc
theorem maxLen0 {S : Store} {w : World} (hS : StoreIn S w) : ∃ m : Int, w.cell? ⟨2, 0, none⟩ = some (.int .i64 m) := by
  obtain ⟨c, m, hc, hm⟩ : ∃ (c : Array Value) (m : Int), S 2 = some c /\ c[0]? = some (.int .i64 m) := by first | exact hS.1 | exact hS.1.2.1
  exact ⟨m, ((hS.2 _ _ hc).cell 0).trans hm⟩

end Go.Proofs.YtjnongegddnobaaDoor
