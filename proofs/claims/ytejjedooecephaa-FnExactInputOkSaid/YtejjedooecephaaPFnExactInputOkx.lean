-- PRINTED BY print.sh 35421559b90ae4d0a3588c463048766b98c2df88dd9212a6774a882060cdf62d: not written by this session
import Derived.Test.YtejjedooecephaaPFnExactInputOkx0
import Derived.Test.YtejjedooecephaaPFnExactInputOkx1
import Derived.Test.YtejjedooecephaaPFnExactInputOkx2
import Derived.Test.YtejjedooecephaaPFnExactInputOkx3
import Derived.Test.YtejjedooecephaaPFnExactInputOkx4
import Derived.Test.YtejjedooecephaaPFnExactInputOkx5
import Derived.Test.YtejjedooecephaaPFnExactInputOkx6
namespace Go.Proofs.Ytejjedooecephaa.PFnExactInputOk
open Go.RowKit Go.Proofs.YtejjedooecephaaW.PrintWords Go.Proofs.YtejjedooecephaaW.PrintLast Go.Proofs.YtejjedooecephaaW.PrintMore
attribute [local go_sem] max2_int min2_int max_two min_two max_three min_three max_four min_four   -- for this text's walks alone
set_option linter.unusedVariables false
set_option linter.unusedSimpArgs false

end Go.Proofs.Ytejjedooecephaa.PFnExactInputOk
