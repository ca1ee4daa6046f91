/- A drawn region whose slots' values are all known ahead: its steps, told of any act with the same values in some slots, whatever comes behind. No condition of its own. -/
import Derived.Test.YtkflofjcjolehaaBig14
/-! A drawn region, its steps by themselves. -/
namespace Go.Proofs.Ytkflofjcjolehaa
open Go.RowKit
section
variable {P : Program}
theorem wp_region_abs {id : Nat} {l : List Oper} {Q : Exit → Act → World → Prop} {a : Act} {w : World} (T S : List Tmp) (vals : List Value) (hm : P.follows .mixedOrders = true)
    (hn : S.length < l.length) (hv : vals.length = S.length) (hs : Region.sinkB .any ⟨l⟩ S.length = true) (hc : Region.chainB .any ⟨l⟩ S.length = true) (hb : backWB 0 l = true)
    (hS : ∀ s, s ∈ S → s < a.tmps.size) (hd : S.Nodup)
    (hstep : ∀ (Q' : Exit → Act → World → Prop) (a' : Act), (∀ t, t ∈ T → a'.eval (.tmp t) = a.eval (.tmp t)) → FixedSteps P ⟨l⟩ Q' a' w S vals 0 (l.take S.length))
    (htail : ∀ (W : World), Below w.heap.size w W → wpList P ⟨l⟩ Q (l.drop S.length) (putAll a S vals) W) :
    (Code.region id ⟨l⟩ true).wp P Q a w :=
  wp_region_fixed S vals hm hn hv hs hc hb hS hd (hstep Q a fun _ _ => rfl) htail
end
end Go.Proofs.Ytkflofjcjolehaa
