/- Regions that draw their order, by hand: an operation that its guard passes over. No condition. -/
import Derived.Test.YtgmbacgpaagkhaaMrkL
namespace Go.Proofs.Ytgmbacgpaagkhaa
open Go.RowKit

theorem wpAny_skip {P : Program} {md : Region.Mode} {ops : Array Oper} {Q : Exit → Act → World → Prop} {i : Nat} {oi : Oper} {fuel : Nat} {listed : Array Bool} {a : Act} {w : World} (hi : ops[i]? = some oi)
    (hs : Region.noSelect ops = true) (hf : Region.free md ops listed i = true) (hr : (Region.ready md ops listed).contains i = true)
    (hQ : ∀ c a w, Q (.panic c) (a.put oi.dst undef) w → Q (.panic c) a w) (hw : Region.wanted oi (yielded ops a.tmps) = false) (ha : a.put oi.dst undef = a)
    (h : wpAny P md ops Q fuel (listed.setIfInBounds i true) a w) : wpAny P md ops Q (fuel + 1) listed a w :=
  wpAny_take hi hs hf hr hQ (Or.inr ⟨hw, rfl⟩) (by rw [ha]; exact h)
end Go.Proofs.Ytgmbacgpaagkhaa
