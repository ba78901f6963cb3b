/- string(b), where the bytes are known. -/
import Derived.Test.YtnocjjaebemkoaaProg
import Derived.Test.YtnocjjaebemkoaaBytes
namespace Go.Proofs.Ytnocjjaebemkoaa
open Go.RowKit

/-- string(b) as a rule of the walk, in every world in which b reads the bytes l. -/
theorem conv {A : Option Addr} {n : Nat} {l : List UInt8} (c : Nat) : ∀ W : World, Rd W A n l → (convert 32 9 (.slice A n c)).run Try.prog W = .ok (.string (str l)) W :=
  fun _ h => run_str h 32 5 9 c Try.underlying32 Try.underlying5 Try.underlying9

end Go.Proofs.Ytnocjjaebemkoaa
