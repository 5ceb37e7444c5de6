import Derived.Test.YtbkhkdadipigfaaDoorWInv
import Derived.Test.YtbkhkdadipigfaaDoorWFootNe
namespace Go.Proofs.YtbkhkdadipigfaaDoorW.PrintWords
open Go.RowKit
end Go.Proofs.YtbkhkdadipigfaaDoorW.PrintWords
namespace Go.Proofs.YtbkhkdadipigfaaDoorW.PrintLast
section
variable {ops : Array Oper} {a : Act} {o og : Oper} {g : Nat} {t : Tmp} {u : Bool}
end
end Go.Proofs.YtbkhkdadipigfaaDoorW.PrintLast
