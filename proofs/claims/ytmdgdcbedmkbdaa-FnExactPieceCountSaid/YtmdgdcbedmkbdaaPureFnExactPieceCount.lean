/- The program's PieceCount answers as the reference's, for every int: both test the same bounds and compute the same quotient. No condition. -/
import Derived.Test.YtmdgdcbedmkbdaaPFnExactPieceCountx1
namespace Go.Proofs.Ytmdgdcbedmkbdaa.Pure
open Go.RowKit Go.Proofs.Ytmdgdcbedmkbdaa.PFnExactPieceCount Go.Proofs.YtmdgdcbedmkbdaaW.PrintWords Go.Proofs.YtmdgdcbedmkbdaaW.PrintLast

theorem FnExactPieceCount : laws_FnExactPieceCount.Pure := by
  intro a0 _
  unfold laws_FnExactPieceCount.f spec_PieceCount.f impl_PieceCount.f spec_l01In.f impl_within.f spec_l12Count.f impl_pieces.f
  by_cases h1 : 0 ≤ a0
  · by_cases h2 : a0 ≤ 1024 <;> simp [h1, h2]
  · simp [h1]

end Go.Proofs.Ytmdgdcbedmkbdaa.Pure
