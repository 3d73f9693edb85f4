-- Written by a program of this session (mk.sh, mypatch.py)
import Derived.Test.YtcopbkdlpfcjpaaBx0
import Derived.Test.YtcopbkdlpfcjpaaBx1
import Derived.Test.YtcopbkdlpfcjpaaBx2
import Derived.Test.YtcopbkdlpfcjpaaBx3
import Derived.Test.YtcopbkdlpfcjpaaBx4
import Derived.Test.YtcopbkdlpfcjpaaBx5
import Derived.Test.YtcopbkdlpfcjpaaBx6
import Derived.Test.YtcopbkdlpfcjpaaBx7
import Derived.Test.YtcopbkdlpfcjpaaBx8
import Derived.Test.YtcopbkdlpfcjpaaBx9
import Derived.Test.YtcopbkdlpfcjpaaBx10
import Derived.Test.YtcopbkdlpfcjpaaBx11
import Derived.Test.YtcopbkdlpfcjpaaBx12
namespace Go.Proofs.Ytcopbkdlpfcjpaa.B
open Go.RowKit Go.Proofs.YtcopbkdlpfcjpaaW.PrintWords Go.Proofs.YtcopbkdlpfcjpaaW.PrintLast Go.Proofs.YtcopbkdlpfcjpaaW.PrintMore
attribute [local go_sem] max2_int min2_int max_two min_two max_three min_three max_four min_four   -- for this text's walks alone
set_option linter.unusedVariables false
set_option linter.unusedSimpArgs false

end Go.Proofs.Ytcopbkdlpfcjpaa.B
