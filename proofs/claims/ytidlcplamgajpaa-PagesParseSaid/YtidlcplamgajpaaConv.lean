/- string(b), where the bytes are known. -/
import Derived.Test.YtidlcplamgajpaaProg
import Derived.Test.YtidlcplamgajpaaBytes
namespace Go.Proofs.Ytidlcplamgajpaa
open Go.RowKit

/-- string(b) as a rule of the walk, in every world in which b reads the bytes l. -/
theorem conv {A : Option Addr} {n : Nat} {l : List UInt8} (c : Nat) : ∀ W : World, Rd W A n l → (convert 57 9 (.slice A n c)).run Try.prog W = .ok (.string (str l)) W :=
  fun _ h => run_str h 57 5 9 c Try.underlying57 Try.underlying5 Try.underlying9

end Go.Proofs.Ytidlcplamgajpaa
