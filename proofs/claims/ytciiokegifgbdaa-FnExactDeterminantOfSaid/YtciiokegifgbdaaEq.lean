/- Walks: the laws' own helpers on slices of strings and of integers: equal slices compare as equal. -/
import Derived.Test.YtciiokegifgbdaaRows
import Derived.Test.YtciiokegifgbdaaSl
namespace Go.Proofs.Ytciiokegifgbdaa
open Go.RowKit

end Go.Proofs.Ytciiokegifgbdaa
