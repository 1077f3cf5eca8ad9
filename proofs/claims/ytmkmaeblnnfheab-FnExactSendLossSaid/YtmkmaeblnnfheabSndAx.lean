/- SendAck and SendLoss on both sides. -/
import Derived.Test.YtmkmaeblnnfheabSndAs
import Derived.Test.YtmkmaeblnnfheabSndAi
import Derived.Test.YtmkmaeblnnfheabSndLi
namespace Go.Proofs.Ytmkmaeblnnfheab
end Go.Proofs.Ytmkmaeblnnfheab
