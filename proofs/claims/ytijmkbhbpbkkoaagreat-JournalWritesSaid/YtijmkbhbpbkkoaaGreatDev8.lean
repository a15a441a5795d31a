/- peatbanklaw08: awake. -/
import Derived.Test.YtijmkbhbpbkkoaaGreatDev7
namespace Go.Proofs.YtijmkbhbpbkkoaaGreat
open Go.RowKit

def aw1 : Dk := (Dk.new 2).put 0 (fullL 1)
def aw2 : Dk := (aw1.put 1 (fullL 1)).flush
def aw3 : Dk := (aw2.put 0 (fullL 50)).put 1 (fullL 50)
def aw4 : Dk := aw3.wake [1]

end Go.Proofs.YtijmkbhbpbkkoaaGreat
