/- Contracts of functions of the program (V1). -/
import Derived.Test.YtmehbbepppjikaaH4
import Derived.Test.YtmehbbepppjikaaW6

namespace Go.Proofs.Ytmehbbepppjikaa
open Go.Av
set_option maxRecDepth 10000
set_option maxHeartbeats 1000000
set_option linter.unusedSimpArgs false
set_option linter.unusedVariables false

theorem canB_le {l : Leg} {o : Hold} {s : Int} (hc : canB l o s = true) : fitB l o = true := by
  rw [canB, Bool.and_eq_true] at hc
  exact hc.1
theorem hold_used (l : Leg) (o : Hold) (c : Int) : usedI (holdL l o) c = usedI l c + upS c o := by
  rw [usedI_def, usedI_def, show (holdL l o).sold = l.sold from rfl, show (holdL l o).holds = l.holds.take (placeN l o.txn) ++ o :: l.holds.drop (placeN l o.txn) from rfl, sum_insert]
  omega
theorem hold_back (l : Leg) (o : Hold) (c : Int) : backI (holdL l o) c = backI l c + dnS c o := by
  rw [backI_def, backI_def, show (holdL l o).holds = l.holds.take (placeN l o.txn) ++ o :: l.holds.drop (placeN l o.txn) from rfl, sum_insert]
theorem room1 {l : Leg} (hp : LegP l) : roomW l 9 1 = l.limits.getD 0 0 - usedI l 0 ∧ 0 ≤ usedI l 0 ∧ usedI l 0 ≤ l.limits.getD 0 0 := by
  have h1 := hp.usedI (c := 0) (by omega)
  have h2 : usedV l 0 ≤ l.limits.getD 0 0 := hp.used 0 (by omega)
  have h3 := hp.lim0
  have h4 := hp.cap
  refine ⟨?_, by omega, by omega⟩
  simp only [roomW, Int.cast_ofNat_Int]
  rw [wrap_id (by omega) (by omega)]
  omega
theorem bids_fall {l : Leg} (hp : LegP l) {i : Nat} : ∀ {j : Nat}, i ≤ j → j < l.bids.length → l.bids.getD j 0 ≤ l.bids.getD i 0
  | 0, h, _ => by rw [show i = 0 by omega]; exact Int.le_refl _
  | j + 1, h, hj => by
    by_cases e : i = j + 1
    · rw [e]; exact Int.le_refl _
    · have h1 := hp.bfall (j + 1) hj (by omega)
      have h2 := bids_fall hp (i := i) (j := j) (by omega) (by omega)
      rw [Nat.add_sub_cancel] at h1
      omega
theorem bidV_range {l : Leg} (hp : LegP l) : 0 ≤ bidV l ∧ bidV l ≤ 1000000000 := by
  have h1 := room1 hp
  have h2 := hp.bids
  rw [bidV]
  exact hp.bid _ (by omega)
theorem legBidV_range (l : Leg) : 0 ≤ legBidV l ∧ legBidV l ≤ 1000000000 := by
  rw [legBidV]
  cases hb : legB l with
  | false => exact ⟨Int.le_refl _, show (0 : Int) ≤ 1000000000 by decide⟩
  | true => exact bidV_range (legP_of hb)
theorem bid_rise {l : Leg} {o : Hold} {s : Int} (hh : heldB l o s = true) : legBidV l ≤ legBidV (heldV l o s) := by
  rw [heldB, Bool.and_eq_true] at hh
  have hp := legP_of hh.1
  have hx := hold_ok hp hh.2
  rw [heldV, hh.1, hh.2, if_pos rfl, if_pos rfl, legBidV, legBidV, hh.1, hx.mk_leg, if_pos rfl, if_pos rfl, bidV, bidV]
  have r1 := room1 hp
  have r2 := room1 hx
  have hu := hold_used l o 0
  have hn := upS_nn 0 o
  have hb := hp.bids
  have e1 : (holdL l o).limits = l.limits := rfl
  have e2 : (holdL l o).bids = l.bids := rfl
  rw [e1] at r2
  rw [e2]
  exact bids_fall hp (by omega) (by omega)
def bidD (bs : List Int) : Leg := (anyS (bs.take 2000) 0).1
theorem drawLegBid_gives (bs : List Int) (h : Hp) (hb : ∀ x, x ∈ bs → 0 ≤ x ∧ x ≤ 255) : Gives Try.prog 52 [.slice (bs.map (.int .u8)) .no] h (bidD bs).d := by
  have hR := fun p h0 h1 => rd_take hb p h0 h1
  have hG := fun (r : Nat) g q1 q2 => l14AnyLeg_gives (bs.take 2000) 0 r g q1 q2 (hR _ (by omega) (by omega)) (by omega)
  have hO := l1Open_gives bs
  rw [bidD]
  generalize bs.take 2000 = cs at hR hG hO
  generalize anyS cs 0 = s at hG
  obtain ⟨l, u⟩ := s
  simp only at hG ⊢
  refine meets_of [] mixed Try.func52 rfl (by kernel_rfl) (by kernel_rfl) (by rw [Try.ntmps52]; simp only [List.length_cons, List.length_nil]; omega) (fun hf => ?_)
  rw [Try.results52]
  clear hf
  try simp -implicitDefEqProofs only [lenMax, push_cast, Nat.reduceEqDiff, Nat.reduceBEq, Nat.reduceBNe, Nat.reduceAdd, Nat.reduceMul, Nat.reduceLT, Nat.reduceLeDiff, Nat.reduceSub, reduceCtorEq, Int.reduceToNat, ↓reduceIte]
  repeat'
    (first
     | (refine uYes ?_; first | exact List.mem_cons_self | (simp only [List.mem_cons, List.not_mem_nil, or_false, true_or, or_true]; done))
     | (refine uNo (by kernel_rfl))
     | (refine flatMk ?_; kernel_rfl)
     | (refine And.intro ?_ ?_)
     | (intro hx)
     | ((first
         | (refine callGF ?_)
         | (refine callQGF ?_)
         | (refine skipG ?_)
         | (refine callM (hO _) ?_)
         | (refine callM (hG _ _ (ob_app h _ 0) (by simp)) ?_)
         | (refine callM (hG _ _ (ob_app h _ 1) (by simp)) ?_)); simp -implicitDefEqProofs only [lenMax, push_cast, Nat.reduceEqDiff, Nat.reduceBEq, Nat.reduceBNe, Nat.reduceAdd, Nat.reduceMul, Nat.reduceLT, Nat.reduceLeDiff, Nat.reduceSub, reduceCtorEq, Int.reduceToNat, ↓reduceIte]))
  all_goals first
    | omega
    | trace_state
end Go.Proofs.Ytmehbbepppjikaa
