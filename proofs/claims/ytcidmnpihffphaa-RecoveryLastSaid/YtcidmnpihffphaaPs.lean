import Derived.Test.YtcidmnpihffphaaW13
namespace Go.Proofs.Ytcidmnpihffphaa
open Go Go.Eng
set_option maxRecDepth 1000000
theorem sane_ok : law34_sane_F = some true := by kernel_rfl
end Go.Proofs.Ytcidmnpihffphaa
