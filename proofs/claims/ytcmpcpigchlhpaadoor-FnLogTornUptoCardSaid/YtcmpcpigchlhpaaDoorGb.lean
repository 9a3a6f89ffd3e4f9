/- Contracts of functions of the program (Gb). -/
import Derived.Test.YtcmpcpigchlhpaaDoorGa

namespace Go.Proofs.YtcmpcpigchlhpaaDoor
set_option linter.unusedSectionVars false
open Go.Av
variable [Av.Start]
set_option maxRecDepth 10000
set_option linter.unusedSimpArgs false
set_option linter.unusedVariables false

def legB (l : Leg) : Bool := nameB l.name && nameB l.src && nameB l.dst && !decide (l.src = l.dst) && inB l.dep 0 9999 && inB l.arr (IntKind.i64.wrap (l.dep + 1)) 9999 && inB l.cap 1 9 &&
  decide ((l.limits.length : Int) = 3) && fallB l.limits l.cap && decide (l.limits.getD 0 0 = l.cap) && decide ((l.sold.length : Int) = 3) && !anyB l.sold (fun x => !inB x 0 l.cap) &&
  inB l.bids.length 1 4 && fallB l.bids 1000000000 && holdsB l
end Go.Proofs.YtcmpcpigchlhpaaDoor

namespace Go.Proofs.YtcmpcpigchlhpaaDoor
set_option linter.unusedSectionVars false
open Go.Av
variable [Av.Start]
set_option maxRecDepth 10000
set_option linter.unusedSimpArgs false
set_option linter.unusedVariables false


def plainAt (l : Leg) (i : Nat) : Bool := fallAt l.limits l.cap i && inB (l.sold.getD i 0) 0 l.cap
def plain1 (l : Leg) : Bool := nameB l.name && nameB l.src && nameB l.dst && !decide (l.src = l.dst) && inB l.dep 0 9999 && inB l.arr (IntKind.i64.wrap (l.dep + 1)) 9999 && inB l.cap 1 9
def plain2 (l : Leg) : Bool := decide ((l.limits.length : Int) = 3) && decide ((l.sold.length : Int) = 3) && decide (l.limits.getD 0 0 = l.cap) && inB l.bids.length 1 4 && decide ((l.holds.length : Int) ≤ 6)
def plainB (l : Leg) : Bool := plain1 l && plain2 l && allB 3 (plainAt l) && fallB l.bids 1000000000
def specLegB (l : Leg) : Bool := plainB l && allB l.holds.length (holdAt l) && allB 3 (clsAt l)
end Go.Proofs.YtcmpcpigchlhpaaDoor

namespace Go.Proofs.YtcmpcpigchlhpaaDoor
set_option linter.unusedSectionVars false
open Go.Av
variable [Av.Start]
set_option maxRecDepth 10000
set_option linter.unusedSimpArgs false
set_option linter.unusedVariables false

omit [Av.Start] in
theorem legB_spec (l : Leg) : legB l = specLegB l := by
  have h3 : ∀ (f : Nat → Bool), allB 3 f = (f 0 && f 1 && f 2) := fun f => by simp [allB, List.range_succ, List.range_zero, Bool.and_assoc]
  have e : legB l = true ↔ specLegB l = true := by
    simp only [legB, specLegB, plainB, plain1, plain2, plainAt, holdsB, anyB, fallB, Bool.and_eq_true, decide_eq_true_eq, Bool.not_not, allB_iff, Bool.not_eq_true', decide_eq_false_iff_not]
    constructor
    · rintro ⟨⟨⟨⟨⟨⟨⟨⟨⟨⟨⟨⟨⟨⟨a1, a2⟩, a3⟩, a4⟩, a5⟩, a6⟩, a7⟩, a8⟩, a9⟩, a10⟩, a11⟩, a12⟩, a13⟩, a14⟩, ⟨a15, a16⟩, a17⟩
      have e8 : l.limits.length = 3 := by omega
      have e11 : l.sold.length = 3 := by omega
      rw [e8] at a9
      rw [e11] at a12
      have b1 : (l.holds.length : Int) ≤ 6 := by omega
      exact ⟨⟨⟨⟨⟨⟨⟨⟨⟨⟨⟨a1, a2⟩, a3⟩, a4⟩, a5⟩, a6⟩, a7⟩, ⟨⟨⟨a8, a11⟩, a10⟩, a13⟩, b1⟩, fun i hi => ⟨a9 i hi, a12 i hi⟩⟩, a14⟩, a15⟩, a16⟩
    · rintro ⟨⟨⟨⟨⟨⟨⟨⟨⟨⟨⟨a1, a2⟩, a3⟩, a4⟩, a5⟩, a6⟩, a7⟩, ⟨⟨⟨a8, a11⟩, a10⟩, a13⟩, b1⟩, b2⟩, a14⟩, a15⟩, a16⟩
      have e8 : l.limits.length = 3 := by omega
      have e11 : l.sold.length = 3 := by omega
      refine ⟨⟨⟨⟨⟨⟨⟨⟨⟨⟨⟨⟨⟨⟨a1, a2⟩, a3⟩, a4⟩, a5⟩, a6⟩, a7⟩, a8⟩, ?_⟩, a10⟩, a11⟩, ?_⟩, a13⟩, a14⟩, ⟨a15, a16⟩, by omega⟩
      · rw [e8]; exact fun i hi => (b2 i hi).1
      · rw [e11]; exact fun i hi => (b2 i hi).2
  exact Bool.eq_iff_iff.2 e

end Go.Proofs.YtcmpcpigchlhpaaDoor
