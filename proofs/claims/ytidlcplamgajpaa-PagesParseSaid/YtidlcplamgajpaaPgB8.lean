/- The walk of the statement PagesBytes, joined. -/
import Derived.Test.YtidlcplamgajpaaPgB7
namespace Go.Proofs.Ytidlcplamgajpaa
open Go.RowKit

theorem law_pbytes (A : Option Addr) (n c : Nat) (l : List Pg) (w : World) (hr : RdG pgE w A n l) (hnc : n ≤ c) (hc : c ≤ maxLen) :
    Calls Try.prog 9 #[.slice A n c] w fun e w' => e = .returned (.bool true) ∧ Below w.heap.size w w' := by
  by_cases h : 16 < min n 70
  · exact law_pbytes_no A n c l w hr hnc hc (.inl h)
  · cases hb : (l.take (min n 70)).any badB with
    | true => exact law_pbytes_no A n c l w hr hnc hc (.inr hb)
    | false => exact law_pbytes_yes A n c l w hr hnc hc (by omega) hb
end Go.Proofs.Ytidlcplamgajpaa
