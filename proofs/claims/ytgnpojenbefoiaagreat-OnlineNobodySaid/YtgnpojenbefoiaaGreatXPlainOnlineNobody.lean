/- The plain laws for OnlineNobody. -/
import Derived.Test.YtgnpojenbefoiaaGreatXFns
import Derived.Test.YtgnpojenbefoiaaGreatGAppend
import Derived.KernelRfl
namespace Gx
open Go Gd
set_option linter.unusedVariables false
set_option linter.unusedSimpArgs false
end Gx
namespace Gx
open Go
end Gx
namespace Gx
open Go Gd
set_option linter.unusedVariables false
theorem L7 (x0:Q6) (g0:gd J5 x0) (x1:Int) (g1:gd (.int .i64) x1):∃N,Z4 N x0 x1=some true :=
 ⟨128,by kernel_rfl⟩
end Gx
