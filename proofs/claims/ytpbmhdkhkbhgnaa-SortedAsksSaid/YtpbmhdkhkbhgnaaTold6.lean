/- scrimshawlaw6.told answers true and turns nothing that was there. -/
import Derived.Test.YtpbmhdkhkbhgnaaAllN
import Derived.Lib.SlBytesConst
namespace Go.Proofs.Ytpbmhdkhkbhgnaa
open Go.RowKit

end Go.Proofs.Ytpbmhdkhkbhgnaa
