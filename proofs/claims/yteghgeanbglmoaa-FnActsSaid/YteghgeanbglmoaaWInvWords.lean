-- PRINTED BY print.sh 35421559b90ae4d0a3588c463048766b98c2df88dd9212a6774a882060cdf62d: not written by this session
import Derived.Test.YteghgeanbglmoaaWInv
import Derived.Test.YteghgeanbglmoaaWFootNe
namespace Go.Proofs.YteghgeanbglmoaaW.PrintWords
open Go.RowKit
end Go.Proofs.YteghgeanbglmoaaW.PrintWords
namespace Go.Proofs.YteghgeanbglmoaaW.PrintLast
section
variable {ops : Array Oper} {a : Act} {o og : Oper} {g : Nat} {t : Tmp} {u : Bool}
end
end Go.Proofs.YteghgeanbglmoaaW.PrintLast
