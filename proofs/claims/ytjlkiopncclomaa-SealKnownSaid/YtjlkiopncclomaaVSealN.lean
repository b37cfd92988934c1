/- Plain: what layer 5's closed law asks of tags, computed. No program in this text. No conditions. -/
import Derived.Test.YtjlkiopncclomaaZf
namespace Go
namespace TL
def key9 : List UInt8 := 9 :: List.replicate 31 0
def data9 : List UInt8 := sealL key9 2 3 helloL
theorem about_far : (tagL key9 1 2 3 [97] data9 == tagL key9 1 2 3 [98] data9) = false := by decide +kernel
theorem number_far : (tagL key9 1 2 3 [97] data9 == tagL key9 1 2 4 [97] data9) = false := by decide +kernel
end TL
end Go
