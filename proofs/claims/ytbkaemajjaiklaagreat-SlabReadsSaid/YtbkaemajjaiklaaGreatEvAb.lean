/- Short names for states of the abstract machine. No condition. -/
import Derived.Test.YtbkaemajjaiklaaGreatEvEnv
namespace Go.Proofs.YtbkaemajjaiklaaGreat.Ev
open Go.RowKit
set_option maxRecDepth 100000
def uq (n : Nat) : AV := .int .u64 (.ofNat n)
def u0 : AV := uq 0
def i0 : AV := iq 0
def b0 : AV := bq 0
def no {α : Type} : Tr α := .n none .e .e
def nr {α : Type} (t : Tr α) : Tr α := .n none .e t
def l0 : Tr AV := lf u0
end Go.Proofs.YtbkaemajjaiklaaGreat.Ev
