/- A drawn region, walked by hand: from some step on, what is kept may say more. -/
import Derived.Test.YtlndlcdamimbdaaBase
import Derived.Deep.RegionHeld3
namespace Go.Proofs.Ytlndlcdamimbdaa
open Go.RowKit

theorem wpAnyH_strong {P : Program} {ops : Array Oper} {Q : Exit → Act → World → Prop} {md : Region.Mode} {S S' : World → Prop} (h : ∀ w, S' w → S w) :
    ∀ (fuel : Nat) (listed : Array Bool) (a : Act) (w : World), wpAnyH P md ops Q S' fuel listed a w → wpAnyH P md ops Q S fuel listed a w
  | 0, _, _, _, h' => h'
  | fuel + 1, _, _, _, h' => ⟨h'.1, fun i hi => wpOp_mono (fun a' w' h'' => ⟨h w' h''.1, wpAnyH_strong h fuel _ a' w' h''.2⟩) (h'.2 i hi)⟩
end Go.Proofs.Ytlndlcdamimbdaa
