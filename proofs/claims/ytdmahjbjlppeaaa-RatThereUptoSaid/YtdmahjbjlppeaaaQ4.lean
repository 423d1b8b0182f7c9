
/- Cmp, Floor, Near, Abs, Dist of the reference; the law's small words. -/
import Derived.Test.YtdmahjbjlppeaaaQWhole
import Derived.Test.YtdmahjbjlppeaaaNumQ2
namespace Go.Proofs.Ytdmahjbjlppeaaa
open Go.RowKit

end Go.Proofs.Ytdmahjbjlppeaaa
