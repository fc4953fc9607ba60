/- The program's QuorumSize answers as the reference's, for every int: both test the same bounds and compute the same quotient. No condition. -/
import Derived.Test.YtmdgdcbedmkbdaaPFnExactQuorumSizex1
namespace Go.Proofs.Ytmdgdcbedmkbdaa.Pure
open Go.RowKit Go.Proofs.Ytmdgdcbedmkbdaa.PFnExactQuorumSize Go.Proofs.YtmdgdcbedmkbdaaW.PrintWords Go.Proofs.YtmdgdcbedmkbdaaW.PrintLast

theorem FnExactQuorumSize : laws_FnExactQuorumSize.Pure := by
  intro a0 _
  unfold laws_FnExactQuorumSize.f spec_QuorumSize.f impl_QuorumSize.f spec_l01In.f impl_isReplicas.f impl_within.f spec_l09Size.f impl_majority.f
  by_cases h1 : 1 ≤ a0
  · by_cases h2 : a0 ≤ 7 <;> simp [h1, h2]
  · simp [h1]

end Go.Proofs.Ytmdgdcbedmkbdaa.Pure
