import Derived.Test.YtncnkpdalfnefaaF3
/- The first pair is the reference's: a sum of few steps. -/
namespace Go.Proofs.Ytncnkpdalfnefaa.Pure
open Go.RowKit Go.Proofs.YtncnkpdalfnefaaW.PrintWords Go.Proofs.Ytncnkpdalfnefaa Go.Proofs.Ytncnkpdalfnefaa.P

theorem FnExactFirstDesk : ∃ k, laws_FnExactFirstDesk.f k = some true := ⟨9, by kernel_rfl⟩

end Go.Proofs.Ytncnkpdalfnefaa.Pure
