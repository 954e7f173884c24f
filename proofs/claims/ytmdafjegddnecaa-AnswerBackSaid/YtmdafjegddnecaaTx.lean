/- More of the table: facts on types, and which operations stand ahead of which. -/
import Derived.Test.YtmdafjegddnecaaTb
namespace Go.Proofs.Ytmdafjegddnecaa
open Go.Pm
set_option maxRecDepth 1000000

end Go.Proofs.Ytmdafjegddnecaa
