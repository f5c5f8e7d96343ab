/- The program's IsPlan returns what the reference's returns, for all texts up to 2^20 bytes (longer ones the law lets by). No further condition. -/
import Derived.Test.YthnheffndhbebaaQPlan
namespace Go.Proofs.Ythnheffndhbebaa.Pure
open Go.RowKit Go.Proofs.Ythnheffndhbebaa.P Go.Proofs.YthnheffndhbebaaW.PrintWords Go.Proofs.YthnheffndhbebaaW.PrintLast

theorem FnExactIsPlan : laws_FnExactIsPlan.Pure := by
  intro a _
  refine Ev.rounds (r := true) ?_
  unfold laws_FnExactIsPlan.f
  by_cases h : (a.size : Int) > 1048576
  · exact Ev.pos h (Ev.now _)
  · refine Ev.neg h (Ev.bind (spec_IsPlan_ev a (by omega)) (Ev.bind (impl_IsPlan_ev a (by omega)) (Ev.neg (by simp) (Ev.now _))))

end Go.Proofs.Ythnheffndhbebaa.Pure
