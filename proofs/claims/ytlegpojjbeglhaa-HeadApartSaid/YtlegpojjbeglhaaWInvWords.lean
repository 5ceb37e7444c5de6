import Derived.Test.YtlegpojjbeglhaaWInv
import Derived.Test.YtlegpojjbeglhaaWFootNe
namespace Go.Proofs.YtlegpojjbeglhaaW.PrintWords
open Go.RowKit
end Go.Proofs.YtlegpojjbeglhaaW.PrintWords
namespace Go.Proofs.YtlegpojjbeglhaaW.PrintLast
section
variable {ops : Array Oper} {a : Act} {o og : Oper} {g : Nat} {t : Tmp} {u : Bool}
end
end Go.Proofs.YtlegpojjbeglhaaW.PrintLast
