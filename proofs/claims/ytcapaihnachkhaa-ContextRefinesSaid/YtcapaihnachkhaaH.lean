/-
  Hints of the seat.
-/
import Derived.Test.YtcapaihnachkhaaRows
import Derived.Test.YtcapaihnachkhaaOsH
namespace Go.Proofs.Ytcapaihnachkhaa
open Go.Os
noncomputable def Hn : Hints := hintsOf Try.prog
end Go.Proofs.Ytcapaihnachkhaa
