-- PRINTED by print.py (a twelfth state) out of the translation. Not trusted: Lean checks it.
import Derived.Test.YtnlpdjklbjclpaaPNoiseSaysx0
import Derived.Test.YtnlpdjklbjclpaaPNoiseSaysx1
import Derived.Test.YtnlpdjklbjclpaaPNoiseSaysx2
import Derived.Test.YtnlpdjklbjclpaaPNoiseSaysx3
import Derived.Test.YtnlpdjklbjclpaaPNoiseSaysx4
import Derived.Test.YtnlpdjklbjclpaaPNoiseSaysx5
import Derived.Test.YtnlpdjklbjclpaaPNoiseSaysx6
import Derived.Test.YtnlpdjklbjclpaaPNoiseSaysx7
import Derived.Test.YtnlpdjklbjclpaaPNoiseSaysx8
import Derived.Test.YtnlpdjklbjclpaaPNoiseSaysx9
import Derived.Test.YtnlpdjklbjclpaaPNoiseSaysx10
import Derived.Test.YtnlpdjklbjclpaaPNoiseSaysx11
namespace Go.Proofs.Ytnlpdjklbjclpaa.PNoiseSays
open Go.RowKit Go.Proofs.YtnlpdjklbjclpaaW.PrintWords Go.Proofs.YtnlpdjklbjclpaaW.PrintLast Go.Proofs.YtnlpdjklbjclpaaW.PrintMore
attribute [local go_sem] setCell_drewN max2_int min2_int max_two min_two max_three min_three max_four min_four   -- for this text's walks alone
set_option linter.unusedVariables false
set_option linter.unusedSimpArgs false
end Go.Proofs.Ytnlpdjklbjclpaa.PNoiseSays
