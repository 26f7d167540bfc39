/- The plain laws for JournalNobody. -/
import Derived.Test.YtknipijkpcbadaaGreatXFns
import Derived.Test.YtknipijkpcbadaaGreatGAppend
import Derived.KernelRfl
namespace Gx
open Go Gd
set_option linter.unusedVariables false
set_option linter.unusedSimpArgs false
end Gx
namespace Gx
open Go
end Gx
namespace Gx
open Go
theorem law_JournalNobody (x0 : ApiRequest) (g0 : gd tyApiRequest x0) (x1 : Int) (g1 : gd (.int .i64) x1) : ∃ N, billinglaw42_JournalNobody N x0 x1 = some true := ⟨64, by kernel_rfl⟩
end Gx
