/- The device (dev.Disk): Bytes. -/
import Derived.Test.YtijmkbhbpbkkoaaRfA
namespace Go.Proofs.Ytijmkbhbpbkkoaa
open Go.RowKit

end Go.Proofs.Ytijmkbhbpbkkoaa
