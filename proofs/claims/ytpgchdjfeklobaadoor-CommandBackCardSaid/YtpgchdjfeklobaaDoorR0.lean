/-
  Words for the walks of the reference's Check.
-/
import Derived.Test.YtpgchdjfeklobaaDoorCheck
namespace Go.Proofs.YtpgchdjfeklobaaDoor
open Go.RowKit

theorem reads_at (W : World) (T : TypeId) (xs : List Value) {g : Nat} (h : g = W.heap.size) : Reads (W.alloc (.cells xs.toArray T)) (g + 1) 1 (some ⟨g, 0, none⟩) xs.length xs := by
  subst h
  exact reads_new W T xs
end Go.Proofs.YtpgchdjfeklobaaDoor
