/- Contracts of functions of the program (Gn). -/
import Derived.Test.YtmehbbepppjikaaGm
import Derived.Test.YtmehbbepppjikaaGl
import Derived.Test.YtmehbbepppjikaaGd

namespace Go.Proofs.Ytmehbbepppjikaa
open Go.Av
set_option maxRecDepth 10000
set_option maxHeartbeats 1000000
set_option linter.unusedSimpArgs false
set_option linter.unusedVariables false

theorem canB_le {l : Leg} {o : Hold} {s : Int} (hc : canB l o s = true) : fitB l o = true := by
  rw [canB, Bool.and_eq_true] at hc
  exact hc.1
theorem hold_used (l : Leg) (o : Hold) (c : Int) : usedI (holdL l o) c = usedI l c + upS c o := by
  rw [usedI_def, usedI_def, show (holdL l o).sold = l.sold from rfl, show (holdL l o).holds = l.holds.take (placeN l o.txn) ++ o :: l.holds.drop (placeN l o.txn) from rfl, sum_insert]
  omega
theorem hold_back (l : Leg) (o : Hold) (c : Int) : backI (holdL l o) c = backI l c + dnS c o := by
  rw [backI_def, backI_def, show (holdL l o).holds = l.holds.take (placeN l o.txn) ++ o :: l.holds.drop (placeN l o.txn) from rfl, sum_insert]
theorem room1 {l : Leg} (hp : LegP l) : roomW l 9 1 = l.limits.getD 0 0 - usedI l 0 ∧ 0 ≤ usedI l 0 ∧ usedI l 0 ≤ l.limits.getD 0 0 := by
  have h1 := hp.usedI (c := 0) (by omega)
  have h2 : usedV l 0 ≤ l.limits.getD 0 0 := hp.used 0 (by omega)
  have h3 := hp.lim0
  have h4 := hp.cap
  refine ⟨?_, by omega, by omega⟩
  simp only [roomW, Int.cast_ofNat_Int]
  rw [wrap_id (by omega) (by omega)]
  omega
theorem bids_fall {l : Leg} (hp : LegP l) {i : Nat} : ∀ {j : Nat}, i ≤ j → j < l.bids.length → l.bids.getD j 0 ≤ l.bids.getD i 0
  | 0, h, _ => by rw [show i = 0 by omega]; exact Int.le_refl _
  | j + 1, h, hj => by
    by_cases e : i = j + 1
    · rw [e]; exact Int.le_refl _
    · have h1 := hp.bfall (j + 1) hj (by omega)
      have h2 := bids_fall hp (i := i) (j := j) (by omega) (by omega)
      rw [Nat.add_sub_cancel] at h1
      omega
theorem bidV_range {l : Leg} (hp : LegP l) : 0 ≤ bidV l ∧ bidV l ≤ 1000000000 := by
  have h1 := room1 hp
  have h2 := hp.bids
  rw [bidV]
  exact hp.bid _ (by omega)
theorem legBidV_range (l : Leg) : 0 ≤ legBidV l ∧ legBidV l ≤ 1000000000 := by
  rw [legBidV]
  cases hb : legB l with
  | false => exact ⟨Int.le_refl _, show (0 : Int) ≤ 1000000000 by decide⟩
  | true => exact bidV_range (legP_of hb)
theorem bid_rise {l : Leg} {o : Hold} {s : Int} (hh : heldB l o s = true) : legBidV l ≤ legBidV (heldV l o s) := by
  rw [heldB, Bool.and_eq_true] at hh
  have hp := legP_of hh.1
  have hx := hold_ok hp hh.2
  rw [heldV, hh.1, hh.2, if_pos rfl, if_pos rfl, legBidV, legBidV, hh.1, hx.mk_leg, if_pos rfl, if_pos rfl, bidV, bidV]
  have r1 := room1 hp
  have r2 := room1 hx
  have hu := hold_used l o 0
  have hn := upS_nn 0 o
  have hb := hp.bids
  have e1 : (holdL l o).limits = l.limits := rfl
  have e2 : (holdL l o).bids = l.bids := rfl
  rw [e1] at r2
  rw [e2]
  exact bids_fall hp (by omega) (by omega)
def bidD (bs : List Int) : Leg := (anyS (bs.take 2000) 0).1
theorem drawLegBid_gives (bs : List Int) (h : Hp) (hb : ∀ x, x ∈ bs → 0 ≤ x ∧ x ≤ 255) : Gives Try.prog 52 [.slice (bs.map (.int .u8)) .no] h (bidD bs).d := by
  have hR := fun p h0 h1 => rd_take hb p h0 h1
  have hG := fun (r : Nat) g q1 q2 => l14AnyLeg_gives (bs.take 2000) 0 r g q1 q2 (hR _ (by omega) (by omega)) (by omega)
  have hO := l1Open_gives bs
  rw [bidD]
  generalize bs.take 2000 = cs at hR hG hO
  generalize anyS cs 0 = s at hG
  obtain ⟨l, u⟩ := s
  simp only at hG ⊢
  refine meets_of [] mixed Try.func52 rfl (by kernel_rfl) (by kernel_rfl) (by rw [Try.ntmps52]; simp only [List.length_cons, List.length_nil]; omega) (fun hf => ?_)
  rw [Try.results52]
  clear hf
  try simp -implicitDefEqProofs only [lenMax, push_cast, Nat.reduceEqDiff, Nat.reduceBEq, Nat.reduceBNe, Nat.reduceAdd, Nat.reduceMul, Nat.reduceLT, Nat.reduceLeDiff, Nat.reduceSub, reduceCtorEq, Int.reduceToNat, ↓reduceIte]
  repeat'
    (first
     | (refine uYes ?_; first | exact List.mem_cons_self | (simp only [List.mem_cons, List.not_mem_nil, or_false, true_or, or_true]; done))
     | (refine uNo (by kernel_rfl))
     | (refine flatMk ?_; kernel_rfl)
     | (refine And.intro ?_ ?_)
     | (intro hx)
     | ((first
         | (refine callGF ?_)
         | (refine callQGF ?_)
         | (refine skipG ?_)
         | (refine callM (hO _) ?_)
         | (refine callM (hG _ _ (ob_app h _ 0) (by simp)) ?_)
         | (refine callM (hG _ _ (ob_app h _ 1) (by simp)) ?_)); simp -implicitDefEqProofs only [lenMax, push_cast, Nat.reduceEqDiff, Nat.reduceBEq, Nat.reduceBNe, Nat.reduceAdd, Nat.reduceMul, Nat.reduceLT, Nat.reduceLeDiff, Nat.reduceSub, reduceCtorEq, Int.reduceToNat, ↓reduceIte]))
  all_goals first
    | omega
    | trace_state
end Go.Proofs.Ytmehbbepppjikaa

namespace Go.Proofs.Ytmehbbepppjikaa
open Go.Av
set_option maxRecDepth 10000
set_option maxHeartbeats 1000000
set_option linter.unusedSimpArgs false
set_option linter.unusedVariables false

theorem fnLegBid_gives (bs : List Int) (h : Hp) (hb : ∀ x, x ∈ bs → 0 ≤ x ∧ x ≤ 255) : Gives Try.prog 13 [.slice (bs.map (.int .u8)) .no] h (.bool true) := by
  have hD := fun g => drawLegBid_gives bs g hb
  generalize bidD bs = l at hD
  have hH := fun g => implLegHold_gives l ⟨50, 0, 1⟩ 1000000000 g
  have h0 : decide (0 ≤ legBidV l) = true := decide_eq_true (legBidV_range l).1
  have h1 := bid_rise (l := l) (o := ⟨50, 0, 1⟩) (s := 1000000000)
  generalize heldV l ⟨50, 0, 1⟩ 1000000000 = x at hH h1
  generalize heldB l ⟨50, 0, 1⟩ 1000000000 = c at hH h1
  refine meets_of [] mixed Try.func13 rfl (by kernel_rfl) (by kernel_rfl) (by rw [Try.ntmps13]; simp only [List.length_cons, List.length_nil]; omega) (fun hf => ?_)
  rw [Try.results13]
  clear hf
  try simp -implicitDefEqProofs only [← legB_spec, h0, push_cast, Nat.reduceEqDiff, Nat.reduceBEq, Nat.reduceBNe, Nat.reduceAdd, Nat.reduceMul, Nat.reduceLT, Nat.reduceLeDiff, Nat.reduceSub, reduceCtorEq, Int.reduceToNat, ↓reduceIte]
  repeat'
    (first
     | (refine uYes ?_; first | exact List.mem_cons_self | (simp only [List.mem_cons, List.not_mem_nil, or_false, true_or, or_true]; done))
     | (refine uNo (by kernel_rfl))
     | (refine flatMk ?_; kernel_rfl)
     | (refine And.intro ?_ ?_)
     | (intro hx)
     | ((first
         | (refine callGF ?_)
         | (refine callQGF ?_)
         | (refine skipG ?_)
         | (refine callS (hD _) ?_)
         | (refine callQ (hD _) ?_)
         | (refine callG (fun hc => (hD _)) ?_)
         | (refine callQG (fun hc => (hD _)) ?_)
         | (refine callS (implLegBid_gives l _) ?_)
         | (refine callQ (implLegBid_gives l _) ?_)
         | (refine callG (fun hc => (implLegBid_gives l _)) ?_)
         | (refine callQG (fun hc => (implLegBid_gives l _)) ?_)
         | (refine callS (implLegBid_gives x _) ?_)
         | (refine callQ (implLegBid_gives x _) ?_)
         | (refine callG (fun hc => (implLegBid_gives x _)) ?_)
         | (refine callQG (fun hc => (implLegBid_gives x _)) ?_)
         | (refine callS (specLegBid_gives l _) ?_)
         | (refine callQ (specLegBid_gives l _) ?_)
         | (refine callG (fun hc => (specLegBid_gives l _)) ?_)
         | (refine callQG (fun hc => (specLegBid_gives l _)) ?_)
         | (refine callS (hH _) ?_)
         | (refine callQ (hH _) ?_)
         | (refine callG (fun hc => (hH _)) ?_)
         | (refine callQG (fun hc => (hH _)) ?_)
         | (refine callS (implLegOk_gives l _) ?_)
         | (refine callQ (implLegOk_gives l _) ?_)
         | (refine callG (fun hc => (implLegOk_gives l _)) ?_)
         | (refine callQG (fun hc => (implLegOk_gives l _)) ?_)
         | (refine callS (specLegOk_gives l _) ?_)
         | (refine callQ (specLegOk_gives l _) ?_)
         | (refine callG (fun hc => (specLegOk_gives l _)) ?_)
         | (refine callQG (fun hc => (specLegOk_gives l _)) ?_)); simp -implicitDefEqProofs only [← legB_spec, h0, push_cast, Nat.reduceEqDiff, Nat.reduceBEq, Nat.reduceBNe, Nat.reduceAdd, Nat.reduceMul, Nat.reduceLT, Nat.reduceLeDiff, Nat.reduceSub, reduceCtorEq, Int.reduceToNat, ↓reduceIte]))
  all_goals first
    | omega
    | (rw [bne_self_eq_false] at hx; cases hx; done)
    | (cases hc : c
       · exact .inl rfl
       · exact .inr (h1 hc))
    | trace_state
end Go.Proofs.Ytmehbbepppjikaa

namespace Go.Proofs.Ytmehbbepppjikaa
open Go.Av
set_option maxRecDepth 10000
set_option maxHeartbeats 1000000
set_option linter.unusedSimpArgs false
set_option linter.unusedVariables false
attribute [local irreducible] finS

def wantB (bs : List Int) : Leg × Hold × Int :=
  ((anyS bs 1).1, ⟨1 + pickV bs (anyS bs 1).2 10, [pickV bs ((anyS bs 1).2 + 1) 3, -1, 3].getD ((pickV bs ((anyS bs 1).2 + 1 + 1) 12 * 3).tdiv 12).toNat 0, [1, 2, -1, 0, 3, -2].getD (pickV bs ((anyS bs 1).2 + 1 + 1 + 1) 6).toNat 0⟩,
    [1000000000, pickV bs ((anyS bs 1).2 + 1 + 1 + 1 + 1) 900, 0, -1].getD (pickV bs ((anyS bs 1).2 + 1 + 1 + 1 + 1 + 1) 4).toNat 0)
theorem getD6i (a b c d e f : Int) (i : Nat) : [D.int .i64 a, .int .i64 b, .int .i64 c, .int .i64 d, .int .i64 e, .int .i64 f].getD i (.int .i64 0) = .int .i64 ([a, b, c, d, e, f].getD i 0) := getD_map (D.int .i64) 0 [a, b, c, d, e, f] i
theorem getD4i (a b c d : Int) (i : Nat) : [D.int .i64 a, .int .i64 b, .int .i64 c, .int .i64 d].getD i (.int .i64 0) = .int .i64 ([a, b, c, d].getD i 0) := getD_map (D.int .i64) 0 [a, b, c, d] i
theorem drawLegHold_B (bs : List Int) (h : Hp) (hb : ∀ x, x ∈ bs → 0 ≤ x ∧ x ≤ 255) (h6 : pickV (bs.take 2000) 0 6 ≠ 0) : Gives Try.prog 61 [.slice (bs.map (.int .u8)) .no] h (.tup [(wantB (bs.take 2000)).1.d, (wantB (bs.take 2000)).2.1.d, .int .i64 (wantB (bs.take 2000)).2.2]) := by
  have hR := fun p h0 h1 => rd_take hb p h0 h1
  have hA := anyS_place (bs := bs.take 2000) (p := 1) (hR _ (by omega) (by omega)) (by omega)
  have hG := fun (r : Nat) g q1 q2 => l14AnyLeg_gives (bs.take 2000) 1 r g q1 q2 (hR _ (by omega) (by omega)) (by omega)
  have hO := l1Open_gives bs
  rw [wantB]
  generalize bs.take 2000 = cs at hR hA hG hO h6
  generalize anyS cs 1 = s at hA hG
  obtain ⟨l, u⟩ := s
  simp only at hA hG ⊢
  have h6' : decide (pickV cs 0 6 = 0) = false := decide_eq_false h6
  have v1 := pickV_range (hR u (by omega) (by omega)) 10 (by omega)
  have v2 := pickV_range (hR (u + 1) (by omega) (by omega)) 3 (by omega)
  have v3 := pickV_range (hR (u + 1 + 1) (by omega) (by omega)) 12 (by omega)
  have v4 := pickV_range (hR (u + 1 + 1 + 1) (by omega) (by omega)) 6 (by omega)
  have v5 := pickV_range (hR (u + 1 + 1 + 1 + 1) (by omega) (by omega)) 900 (by omega)
  have v6 := pickV_range (hR (u + 1 + 1 + 1 + 1 + 1) (by omega) (by omega)) 4 (by omega)
  have w1 : IntKind.i64.wrap (pickV cs (u + 1 + 1) 12 * 3) = pickV cs (u + 1 + 1) 12 * 3 := wrap_id (by omega) (by omega)
  have w2 : 0 ≤ (pickV cs (u + 1 + 1) 12 * 3).tdiv 12 ∧ (pickV cs (u + 1 + 1) 12 * 3).tdiv 12 < 3 := by
    rw [Int.tdiv_eq_ediv_of_nonneg (by omega)]
    omega
  have w3 : IntKind.i64.wrap ((pickV cs (u + 1 + 1) 12 * 3).tdiv 12) = (pickV cs (u + 1 + 1) 12 * 3).tdiv 12 := wrap_id (by omega) (by omega)
  have w4 : IntKind.i64.wrap (1 + pickV cs u 10) = 1 + pickV cs u 10 := wrap_id (by omega) (by omega)
  have hK := fun (n : Int) (p : Int) (p0 : 0 ≤ p) (p1 : p ≤ 1000) g (q1 : ob g (h.length + 2) = .row (rdC cs p)) (q2 : h.length + 2 < g.length) => pick_gives cs p n _ g q1 q2 (hR p p0 (by omega))
  refine meets_of [] mixed Try.func61 rfl (by kernel_rfl) (by kernel_rfl) (by rw [Try.ntmps61]; simp only [List.length_cons, List.length_nil]; omega) (fun hf => ?_)
  rw [Try.results61]
  clear hf
  try simp -implicitDefEqProofs only [lenMax, h6', w1, w3, w4, getD3i, getD4i, getD6i, push_cast, Nat.reduceEqDiff, Nat.reduceBEq, Nat.reduceBNe, Nat.reduceAdd, Nat.reduceMul, Nat.reduceLT, Nat.reduceLeDiff, Nat.reduceSub, reduceCtorEq, Int.reduceToNat, ↓reduceIte]
  repeat'
    (first
     | (refine uYes ?_; first | exact List.mem_cons_self | (simp only [List.mem_cons, List.not_mem_nil, or_false, true_or, or_true]; done))
     | (refine uNo (by kernel_rfl))
     | (refine flatMk ?_; kernel_rfl)
     | (refine And.intro ?_ ?_)
     | (intro hx)
     | ((first
         | (refine callGF ?_)
         | (refine callQGF ?_)
         | (refine skipG ?_)
         | (refine callM (hO _) ?_)
         | (refine callM (hK 6 0 (by omega) (by omega) _ (ob_app h _ 2) (by simp)) ?_)
         | (refine inX_mkU [h.length + 2] [h.length, h.length + 1] (by kernel_rfl) (by simp) ?_)
         | (refine callXR (r := h.length + 2) (by simp) (by simp) (fun h' hr' hl' => hG _ h' (hr'.trans (ob_app h _ 2)) hl') ?_)
         | (refine callXR (r := h.length + 2) (by simp) (by simp) (fun h' hr' hl' => hK _ _ (by omega) (by omega) h' (hr'.trans (ob_app h _ 2)) hl') ?_)); simp -implicitDefEqProofs only [lenMax, h6', w1, w3, w4, getD3i, getD4i, getD6i, push_cast, Nat.reduceEqDiff, Nat.reduceBEq, Nat.reduceBNe, Nat.reduceAdd, Nat.reduceMul, Nat.reduceLT, Nat.reduceLeDiff, Nat.reduceSub, reduceCtorEq, Int.reduceToNat, ↓reduceIte]))
  all_goals first
    | omega
    | trace_state
end Go.Proofs.Ytmehbbepppjikaa

namespace Go.Proofs.Ytmehbbepppjikaa
open Go.Av
set_option maxRecDepth 10000
set_option maxHeartbeats 1000000
set_option linter.unusedSimpArgs false
set_option linter.unusedVariables false
attribute [local irreducible] finS

def stepH (k : Int) (l : Leg) : Leg := if canB l ⟨1, k, 1⟩ 1000000000 = true then keepL (holdL l ⟨1, k, 1⟩) 1 else l
def iterH (k : Int) : Nat → Leg → Leg
  | 0, l => l
  | n + 1, l => iterH k n (stepH k l)
def lastH (l : Leg) (o : Hold) : Leg := if canB l o 0 = true then holdL l o else l
def zeroHold : Ob := .row [.int .i64 0, .int .i64 0, .int .i64 0]
def wantA (bs : List Int) : Leg × Hold × Int :=
  (lastH (iterH (pickV bs (legV bs (1 + 1) nmLa nmX nmY (pickV bs 1 9)).2 3) (1 + pickV bs ((legV bs (1 + 1) nmLa nmX nmY (pickV bs 1 9)).2 + 1) 3).toNat (legV bs (1 + 1) nmLa nmX nmY (pickV bs 1 9)).1) ⟨2, pickV bs (legV bs (1 + 1) nmLa nmX nmY (pickV bs 1 9)).2 3, -1 - pickV bs ((legV bs (1 + 1) nmLa nmX nmY (pickV bs 1 9)).2 + 1 + 1) 2⟩,
    ⟨3 + pickV bs ((legV bs (1 + 1) nmLa nmX nmY (pickV bs 1 9)).2 + 1 + 1 + 1) 3, pickV bs (legV bs (1 + 1) nmLa nmX nmY (pickV bs 1 9)).2 3, -1 - pickV bs ((legV bs (1 + 1) nmLa nmX nmY (pickV bs 1 9)).2 + 1 + 1 + 1 + 1) 2⟩, 0)
theorem wantRows_cl {n : Nat} (bs : List Int) (p : Int) (l : Leg) : ∀ x, x ∈ [zeroLeg, zeroHold, .row (rdC bs p), .row l.cs] → ObCl n x := by
  intro x hx
  simp only [List.mem_cons, List.not_mem_nil, or_false] at hx
  rcases hx with rfl | rfl | rfl | rfl
  · exact soldRows_cl (N := n) l zeroLeg (by simp)
  · intro d hd
    simp only [List.mem_cons, List.not_mem_nil, or_false] at hd
    rcases hd with rfl | rfl | rfl <;> exact .int _ _
  · exact rdC_cl _ _ _
  · exact soldRows_cl (N := n) l (.row l.cs) (by simp)
theorem drawLegHold_A (bs : List Int) (h : Hp) (hb : ∀ x, x ∈ bs → 0 ≤ x ∧ x ≤ 255) (h6 : pickV (bs.take 2000) 0 6 = 0) : Gives Try.prog 61 [.slice (bs.map (.int .u8)) .no] h (.tup [(wantA (bs.take 2000)).1.d, (wantA (bs.take 2000)).2.1.d, .int .i64 (wantA (bs.take 2000)).2.2]) := by
  have hR := fun p h0 h1 => rd_take hb p h0 h1
  have hO := l1Open_gives bs
  rw [wantA]
  generalize bs.take 2000 = cs at hR hO h6
  have h6' : decide (pickV cs 0 6 = 0) = true := decide_eq_true h6
  have v1 := pickV_range (hR 1 (by omega) (by omega)) 9 (by omega)
  obtain ⟨n1, n2, n3, n4⟩ := names_ok
  obtain ⟨l1, l2, l3⟩ := legV_ok (bs := cs) (p := 1 + 1) (dep := pickV cs 1 9) (hR _ (by omega) (by omega)) (by omega) n1 n2 n3 n4 v1.1 (by omega)
  have hG := fun g hr hrl => l14Leg_gives cs (1 + 1) nmLa nmX nmY (pickV cs 1 9) (h.length + 2) g hr hrl (hR _ (by omega) (by omega)) (by omega) n1 n2 n3 n4 v1.1 (by omega)
  generalize legV cs (1 + 1) nmLa nmX nmY (pickV cs 1 9) = L at l1 l2 l3 hG
  obtain ⟨L, u⟩ := L
  simp only at l1 l2 l3 hG ⊢
  have v2 := pickV_range (hR u (by omega) (by omega)) 3 (by omega)
  have v3 := pickV_range (hR (u + 1) (by omega) (by omega)) 3 (by omega)
  have v4 := pickV_range (hR (u + 1 + 1) (by omega) (by omega)) 2 (by omega)
  have v5 := pickV_range (hR (u + 1 + 1 + 1) (by omega) (by omega)) 3 (by omega)
  have v6 := pickV_range (hR (u + 1 + 1 + 1 + 1) (by omega) (by omega)) 2 (by omega)
  have w1 : IntKind.i64.wrap (1 + pickV cs (u + 1) 3) = 1 + pickV cs (u + 1) 3 := wrap_id (by omega) (by omega)
  have w2 : IntKind.i64.wrap (-1 - pickV cs (u + 1 + 1) 2) = -1 - pickV cs (u + 1 + 1) 2 := wrap_id (by omega) (by omega)
  have w3 : IntKind.i64.wrap (3 + pickV cs (u + 1 + 1 + 1) 3) = 3 + pickV cs (u + 1 + 1 + 1) 3 := wrap_id (by omega) (by omega)
  have w4 : IntKind.i64.wrap (-1 - pickV cs (u + 1 + 1 + 1 + 1) 2) = -1 - pickV cs (u + 1 + 1 + 1 + 1) 2 := wrap_id (by omega) (by omega)
  have hK := fun (n : Int) (p : Int) (p0 : 0 ≤ p) (p1 : p ≤ 1000) g (q1 : ob g (h.length + 2) = .row (rdC cs p)) (q2 : h.length + 2 < g.length) => pick_gives cs p n _ g q1 q2 (hR p p0 (by omega))
  generalize hk : pickV cs u 3 = k at v2
  generalize hn : 1 + pickV cs (u + 1) 3 = n0 at w1
  refine meets_of [] mixed Try.func61 rfl (by kernel_rfl) (by kernel_rfl) (by rw [Try.ntmps61]; simp only [List.length_cons, List.length_nil]; omega) (fun hf => ?_)
  rw [Try.results61]
  clear hf
  try simp -implicitDefEqProofs only [lenMax, h6', hk, hn, w1, push_cast, Nat.reduceEqDiff, Nat.reduceBEq, Nat.reduceBNe, Nat.reduceAdd, Nat.reduceMul, Nat.reduceLT, Nat.reduceLeDiff, Nat.reduceSub, reduceCtorEq, Int.reduceToNat, ↓reduceIte]
  repeat'
    (first
     | (refine uYes ?_; first | exact List.mem_cons_self | (simp only [List.mem_cons, List.not_mem_nil, or_false, true_or, or_true]; done))
     | (refine uNo (by kernel_rfl))
     | (refine flatMk ?_; kernel_rfl)
     | (refine And.intro ?_ ?_)
     | (intro hx)
     | ((first
         | (refine callGF ?_)
         | (refine callQGF ?_)
         | (refine skipG ?_)
         | (refine callM (hO _) ?_)
         | (refine callM (hK 6 0 (by omega) (by omega) _ (ob_app h _ 2) (by simp)) ?_)
         | (refine callM (dst := some 20) (hK 9 1 (by omega) (by omega) _ (ob_app h _ 2) (by simp)) ?_)
         | (refine callM (dst := some 21) (hG _ (ob_app h _ 2) (by simp)) ?_)
         | (refine callM (dst := some 23) (hK 3 u (by omega) (by omega) _ (ob_app h _ 2) (by simp)) ?_)
         | (refine callM (dst := some 25) (hK 3 (u + 1) (by omega) (by omega) _ (ob_app h _ 2) (by simp)) ?_)); simp -implicitDefEqProofs only [lenMax, h6', hk, hn, w1, push_cast, Nat.reduceEqDiff, Nat.reduceBEq, Nat.reduceBNe, Nat.reduceAdd, Nat.reduceMul, Nat.reduceLT, Nat.reduceLeDiff, Nat.reduceSub, reduceCtorEq, Int.reduceToNat, ↓reduceIte]))
  all_goals try omega
  have hn1 : 1 ≤ n0 ∧ n0 ≤ 3 := by omega
  refine ev_loop [] (fun s : Leg × Int => [(2, .ptr h.length 0), (3, .ptr (h.length + 1) 0), (5, .ptr (h.length + 2) 0), (6, .ptr (h.length + 3) 0), (7, .int .i64 k), (8, .int .i64 s.2)])
    (fun s => [zeroLeg, zeroHold, .row (rdC cs (u + 1 + 1)), .row s.1.cs]) (fun s => LegP s.1 ∧ 0 ≤ s.2 ∧ s.2 ≤ 3 ∧ iterH k s.2.toNat s.1 = iterH k n0.toNat L) (fun s => s.2.toNat) (L, n0) trivial ⟨l1, by simp only; omega, by simp only; omega, rfl⟩ ?_ ?_
  · refine ⟨4, by simp, by simp [tokSts], ?_⟩
    simp -implicitDefEqProofs only [zeroLeg, zeroHold, rdC, Int.natCast_add, Int.cast_ofNat_Int, List.length_nil, Nat.le_refl, WeakTo, tokSts, tokOks, List.append_cancel_left_eq, exists_eq_left', exists_eq_left, List.append_cancel_left_eq, List.take_length, ObCl, and_true, true_and, push_cast, Nat.reduceEqDiff, Nat.reduceBEq, Nat.reduceBNe, Nat.reduceAdd, Nat.reduceMul, Nat.reduceLT, Nat.reduceLeDiff, Nat.reduceSub, reduceCtorEq, Int.reduceToNat, ↓reduceIte]
    omega
  · rintro ⟨l, n⟩ ⟨hl, hn0, hn3, hI⟩
    simp only at hl hn0 hn3 hI
    by_cases hnz : n ≤ 0
    · have e : iterH k n0.toNat L = l := by
        rw [← hI, show n.toNat = 0 by omega]; rfl
      rw [e]
      have hH := fun g => l6Hold_gives l ⟨2, k, -1 - pickV cs (u + 1 + 1) 2⟩ 0 g hl
      cases hc : canB l ⟨2, k, -1 - pickV cs (u + 1 + 1) 2⟩ 0 with
      | false =>
        rw [hc] at hH
        rw [lastH, hc]
        try simp -implicitDefEqProofs only [zeroLeg, zeroHold, lenMax, w2, w3, w4, push_cast, Nat.reduceEqDiff, Nat.reduceBEq, Nat.reduceBNe, Nat.reduceAdd, Nat.reduceMul, Nat.reduceLT, Nat.reduceLeDiff, Nat.reduceSub, reduceCtorEq, Int.reduceToNat, ↓reduceIte]
        repeat'
          (first
           | (refine uYes ?_; first | exact List.mem_cons_self | (simp only [List.mem_cons, List.not_mem_nil, or_false, true_or, or_true]; done))
           | (refine uNo (by kernel_rfl))
           | (refine flatMk ?_; kernel_rfl)
           | (refine And.intro ?_ ?_)
           | (intro hx)
           | ((first
               | (refine callGF ?_)
               | (refine callQGF ?_)
               | (refine skipG ?_)
               | (refine callM (dst := some 56) (hK 3 (u + 1 + 1 + 1) (by omega) (by omega) _ (ob_app h _ 2) (by simp)) ?_)
               | (refine callM (dst := some 60) (hK 2 (u + 1 + 1 + 1 + 1) (by omega) (by omega) _ (ob_app h _ 2) (by simp)) ?_)
               | (refine callS (l6Copy_gives l _) ?_)
               | (refine callQ (l6Copy_gives l _) ?_)
               | (refine callG (fun hc => (l6Copy_gives l _)) ?_)
               | (refine callQG (fun hc => (l6Copy_gives l _)) ?_)
               | (refine inX_mkU [h.length + 2] [h.length + 4] (by kernel_rfl) (by simp) ?_)
               | (refine callXR (r := h.length + 2) (by simp) (by simp) (fun h' hr' hl' => hK 2 (u + 1 + 1) (by omega) (by omega) h' (hr'.trans (ob_app h _ 2)) hl') ?_)
               | (refine callXG (fun _ => hH _) ?_)); simp -implicitDefEqProofs only [zeroLeg, zeroHold, lenMax, w2, w3, w4, push_cast, Nat.reduceEqDiff, Nat.reduceBEq, Nat.reduceBNe, Nat.reduceAdd, Nat.reduceMul, Nat.reduceLT, Nat.reduceLeDiff, Nat.reduceSub, reduceCtorEq, Int.reduceToNat, ↓reduceIte]))
        all_goals first
          | omega
          | (right; kernel_rfl)
          | trace_state
      | true =>
        rw [hc] at hH
        rw [lastH, hc]
        simp only [if_true] at hH ⊢
        generalize holdL l ⟨2, k, -1 - pickV cs (u + 1 + 1) 2⟩ = x at hH
        try simp -implicitDefEqProofs only [zeroLeg, zeroHold, lenMax, w2, w3, w4, push_cast, Nat.reduceEqDiff, Nat.reduceBEq, Nat.reduceBNe, Nat.reduceAdd, Nat.reduceMul, Nat.reduceLT, Nat.reduceLeDiff, Nat.reduceSub, reduceCtorEq, Int.reduceToNat, ↓reduceIte]
        repeat'
          (first
           | (refine uYes ?_; first | exact List.mem_cons_self | (simp only [List.mem_cons, List.not_mem_nil, or_false, true_or, or_true]; done))
           | (refine uNo (by kernel_rfl))
           | (refine flatMk ?_; kernel_rfl)
           | (refine And.intro ?_ ?_)
           | (intro hx)
           | ((first
               | (refine callGF ?_)
               | (refine callQGF ?_)
               | (refine skipG ?_)
               | (refine callM (dst := some 56) (hK 3 (u + 1 + 1 + 1) (by omega) (by omega) _ (ob_app h _ 2) (by simp)) ?_)
               | (refine callM (dst := some 60) (hK 2 (u + 1 + 1 + 1 + 1) (by omega) (by omega) _ (ob_app h _ 2) (by simp)) ?_)
               | (refine callS (l6Copy_gives x _) ?_)
               | (refine callQ (l6Copy_gives x _) ?_)
               | (refine callG (fun hc => (l6Copy_gives x _)) ?_)
               | (refine callQG (fun hc => (l6Copy_gives x _)) ?_)
               | (refine inX_mkU [h.length + 2] [h.length + 4] (by kernel_rfl) (by simp) ?_)
               | (refine callXR (r := h.length + 2) (by simp) (by simp) (fun h' hr' hl' => hK 2 (u + 1 + 1) (by omega) (by omega) h' (hr'.trans (ob_app h _ 2)) hl') ?_)
               | (refine callXG (fun _ => hH _) ?_)); simp -implicitDefEqProofs only [zeroLeg, zeroHold, lenMax, w2, w3, w4, push_cast, Nat.reduceEqDiff, Nat.reduceBEq, Nat.reduceBNe, Nat.reduceAdd, Nat.reduceMul, Nat.reduceLT, Nat.reduceLeDiff, Nat.reduceSub, reduceCtorEq, Int.reduceToNat, ↓reduceIte]))
        all_goals first
          | omega
          | (right; kernel_rfl)
          | trace_state
    · have w5 : IntKind.i64.wrap (n - 1) = n - 1 := wrap_id (by omega) (by omega)
      have hI2 : iterH k (n - 1).toNat (stepH k l) = iterH k n0.toNat L := by
        rw [← hI, show n.toNat = (n - 1).toNat + 1 by omega]; rfl
      have hH := fun g => l6Hold_gives l ⟨1, k, 1⟩ 1000000000 g hl
      cases hc : canB l ⟨1, k, 1⟩ 1000000000 with
      | false =>
        rw [hc] at hH
        have hst : stepH k l = l := by rw [stepH, hc]; rfl
        rw [hst] at hI2
        try simp -implicitDefEqProofs only [zeroLeg, zeroHold, lenMax, w5, push_cast, Nat.reduceEqDiff, Nat.reduceBEq, Nat.reduceBNe, Nat.reduceAdd, Nat.reduceMul, Nat.reduceLT, Nat.reduceLeDiff, Nat.reduceSub, reduceCtorEq, Int.reduceToNat, ↓reduceIte]
        repeat'
          (first
           | (refine uYes ?_; first | exact List.mem_cons_self | (simp only [List.mem_cons, List.not_mem_nil, or_false, true_or, or_true]; done))
           | (refine uNo (by kernel_rfl))
           | (refine flatMk ?_; kernel_rfl)
           | (refine And.intro ?_ ?_)
           | (intro hx)
           | ((first
               | (refine callGF ?_)
               | (refine callQGF ?_)
               | (refine skipG ?_)
               | (refine callS (hH _) ?_)
               | (refine callQ (hH _) ?_)
               | (refine callG (fun hc => (hH _)) ?_)
               | (refine callQG (fun hc => (hH _)) ?_)); simp -implicitDefEqProofs only [zeroLeg, zeroHold, lenMax, w5, push_cast, Nat.reduceEqDiff, Nat.reduceBEq, Nat.reduceBNe, Nat.reduceAdd, Nat.reduceMul, Nat.reduceLT, Nat.reduceLeDiff, Nat.reduceSub, reduceCtorEq, Int.reduceToNat, ↓reduceIte]))
        all_goals first
          | omega
          | (refine round_mk (l, n - 1) ⟨hl, by simp only; omega, by simp only; omega, hI2⟩ (by simp only; omega) ?_
             simp -implicitDefEqProofs only [zeroLeg, zeroHold, rdC, Int.natCast_add, Int.cast_ofNat_Int, List.length_nil, Nat.le_refl, WeakTo, tokSts, tokOks, List.append_cancel_left_eq, exists_eq_left', exists_eq_left, List.append_cancel_left_eq, List.take_length, ObCl, and_true, true_and, push_cast, Nat.reduceEqDiff, Nat.reduceBEq, Nat.reduceBNe, Nat.reduceAdd, Nat.reduceMul, Nat.reduceLT, Nat.reduceLeDiff, Nat.reduceSub, reduceCtorEq, Int.reduceToNat, ↓reduceIte]
             omega)
          | trace_state
      | true =>
        rw [hc] at hH
        simp only [if_true] at hH
        have hl2 := hold_ok hl hc
        have hst : stepH k l = keepL (holdL l ⟨1, k, 1⟩) 1 := by rw [stepH, hc]; rfl
        rw [hst] at hI2
        generalize holdL l ⟨1, k, 1⟩ = x at hH hl2 hI2
        have hk2 := (keep_ok hl2 1).1
        have hKp := fun g => l6Keep_gives x 1 g (fun ht => hl2.cls (thereB_t ht))
        generalize keepL x 1 = y at hk2 hKp hI2
        try simp -implicitDefEqProofs only [zeroLeg, zeroHold, lenMax, w5, push_cast, Nat.reduceEqDiff, Nat.reduceBEq, Nat.reduceBNe, Nat.reduceAdd, Nat.reduceMul, Nat.reduceLT, Nat.reduceLeDiff, Nat.reduceSub, reduceCtorEq, Int.reduceToNat, ↓reduceIte]
        repeat'
          (first
           | (refine uYes ?_; first | exact List.mem_cons_self | (simp only [List.mem_cons, List.not_mem_nil, or_false, true_or, or_true]; done))
           | (refine uNo (by kernel_rfl))
           | (refine flatMk ?_; kernel_rfl)
           | (refine And.intro ?_ ?_)
           | (intro hx)
           | ((first
               | (refine callGF ?_)
               | (refine callQGF ?_)
               | (refine skipG ?_)
               | (refine callS (hH _) ?_)
               | (refine callQ (hH _) ?_)
               | (refine callG (fun hc => (hH _)) ?_)
               | (refine callQG (fun hc => (hH _)) ?_)
               | (refine callS (hKp _) ?_)
               | (refine callQ (hKp _) ?_)
               | (refine callG (fun hc => (hKp _)) ?_)
               | (refine callQG (fun hc => (hKp _)) ?_)); simp -implicitDefEqProofs only [zeroLeg, zeroHold, lenMax, w5, push_cast, Nat.reduceEqDiff, Nat.reduceBEq, Nat.reduceBNe, Nat.reduceAdd, Nat.reduceMul, Nat.reduceLT, Nat.reduceLeDiff, Nat.reduceSub, reduceCtorEq, Int.reduceToNat, ↓reduceIte]))
        all_goals first
          | omega
          | (refine round_mk (y, n - 1) ⟨hk2, by simp only; omega, by simp only; omega, hI2⟩ (by simp only; omega) ?_
             simp -implicitDefEqProofs only [zeroLeg, zeroHold, rdC, Int.natCast_add, Int.cast_ofNat_Int, List.length_nil, Nat.le_refl, WeakTo, tokSts, tokOks, List.append_cancel_left_eq, exists_eq_left', exists_eq_left, List.append_cancel_left_eq, List.take_length, ObCl, and_true, true_and, push_cast, Nat.reduceEqDiff, Nat.reduceBEq, Nat.reduceBNe, Nat.reduceAdd, Nat.reduceMul, Nat.reduceLT, Nat.reduceLeDiff, Nat.reduceSub, reduceCtorEq, Int.reduceToNat, ↓reduceIte]
             omega)
          | trace_state
end Go.Proofs.Ytmehbbepppjikaa

namespace Go.Proofs.Ytmehbbepppjikaa
open Go.Av
set_option maxRecDepth 10000
set_option maxHeartbeats 1000000
set_option linter.unusedSimpArgs false
set_option linter.unusedVariables false

def wantH (bs : List Int) : Leg × Hold × Int := if pickV (bs.take 2000) 0 6 = 0 then wantA (bs.take 2000) else wantB (bs.take 2000)
theorem drawLegHold_gives (bs : List Int) (h : Hp) (hb : ∀ x, x ∈ bs → 0 ≤ x ∧ x ≤ 255) : Gives Try.prog 61 [.slice (bs.map (.int .u8)) .no] h (.tup [(wantH bs).1.d, (wantH bs).2.1.d, .int .i64 (wantH bs).2.2]) := by
  rw [wantH]
  split
  · rename_i h6
    exact drawLegHold_A bs h hb h6
  · rename_i h6
    exact drawLegHold_B bs h hb h6
theorem worth1 (l : Leg) (o : Hold) : heldB l o 1000000000 = heldB l o (legBidV l) := by
  cases hl : legB l with
  | false => rw [heldB, heldB, hl]; rfl
  | true =>
    have hb := bidV_range (legP_of hl)
    rw [heldB, heldB, hl, legBidV, hl, if_pos rfl, canB, canB, decide_eq_true hb.2, decide_eq_true (Int.le_refl (bidV l))]
theorem worth2 (l : Leg) (o : Hold) : (o.seats < 0 → heldB l o (legBidV l - 1) = heldB l o (legBidV l)) ∧ (0 ≤ o.seats → heldB l o (legBidV l - 1) = false) := by
  cases hl : legB l with
  | false =>
    refine ⟨fun _ => ?_, fun _ => ?_⟩
    · rw [heldB, heldB, hl]; rfl
    · rw [heldB, hl]; rfl
  | true =>
    refine ⟨fun h0 => ?_, fun h0 => ?_⟩
    · rw [heldB, heldB, hl, canB, canB, if_neg (by omega), if_neg (by omega)]
    · rw [heldB, hl, Bool.true_and, canB, legBidV, hl, if_pos rfl]
      by_cases h1 : o.seats = 0
      · rw [fitB, mayB, decide_eq_true h1]
        simp
      · rw [if_pos (by omega), decide_eq_false (show ¬ bidV l ≤ bidV l - 1 by omega)]
        simp
theorem fnLegWorth_gives (bs : List Int) (h : Hp) (hb : ∀ x, x ∈ bs → 0 ≤ x ∧ x ≤ 255) : Gives Try.prog 18 [.slice (bs.map (.int .u8)) .no] h (.bool true) := by
  have hD := fun g => drawLegHold_gives bs g hb
  generalize wantH bs = t at hD
  obtain ⟨l, o, s⟩ := t
  simp only at hD
  have hr := legBidV_range l
  have hw : IntKind.i64.wrap (legBidV l - 1) = legBidV l - 1 := wrap_id (by omega) (by omega)
  have h1 := fun g => implLegHold_gives l o (legBidV l) g
  have h2 := fun g => specLegHold_gives l o (legBidV l) g
  have h3 := fun g => implLegHold_gives l o (legBidV l - 1) g
  have h4 := fun g => implLegHold_gives l o 1000000000 g
  have w1 := worth1 l o
  obtain ⟨w2, w3⟩ := worth2 l o
  rw [w1] at h4
  generalize heldB l o (legBidV l) = ok at h1 h2 h4 w2
  generalize heldB l o (legBidV l - 1) = less at h3 w2 w3
  generalize heldV l o (legBidV l) = x at h1 h2
  generalize heldV l o (legBidV l - 1) = y at h3
  generalize heldV l o 1000000000 = z at h4
  refine meets_of [] mixed Try.func18 rfl (by kernel_rfl) (by kernel_rfl) (by rw [Try.ntmps18]; simp only [List.length_cons, List.length_nil]; omega) (fun hf => ?_)
  rw [Try.results18]
  clear hf
  try simp -implicitDefEqProofs only [← legB_spec, hw, push_cast, Nat.reduceEqDiff, Nat.reduceBEq, Nat.reduceBNe, Nat.reduceAdd, Nat.reduceMul, Nat.reduceLT, Nat.reduceLeDiff, Nat.reduceSub, reduceCtorEq, Int.reduceToNat, ↓reduceIte]
  repeat'
    (first
     | (refine uYes ?_; first | exact List.mem_cons_self | (simp only [List.mem_cons, List.not_mem_nil, or_false, true_or, or_true]; done))
     | (refine uNo (by kernel_rfl))
     | (refine flatMk ?_; kernel_rfl)
     | (refine And.intro ?_ ?_)
     | (intro hx)
     | ((first
         | (refine callGF ?_)
         | (refine callQGF ?_)
         | (refine skipG ?_)
         | (refine callS (hD _) ?_)
         | (refine callQ (hD _) ?_)
         | (refine callG (fun hc => (hD _)) ?_)
         | (refine callQG (fun hc => (hD _)) ?_)
         | (refine callS (implLegBid_gives l _) ?_)
         | (refine callQ (implLegBid_gives l _) ?_)
         | (refine callG (fun hc => (implLegBid_gives l _)) ?_)
         | (refine callQG (fun hc => (implLegBid_gives l _)) ?_)
         | (refine callS (h1 _) ?_)
         | (refine callQ (h1 _) ?_)
         | (refine callG (fun hc => (h1 _)) ?_)
         | (refine callQG (fun hc => (h1 _)) ?_)
         | (refine callS (h2 _) ?_)
         | (refine callQ (h2 _) ?_)
         | (refine callG (fun hc => (h2 _)) ?_)
         | (refine callQG (fun hc => (h2 _)) ?_)
         | (refine callS (h3 _) ?_)
         | (refine callQ (h3 _) ?_)
         | (refine callG (fun hc => (h3 _)) ?_)
         | (refine callQG (fun hc => (h3 _)) ?_)
         | (refine callS (h4 _) ?_)
         | (refine callQ (h4 _) ?_)
         | (refine callG (fun hc => (h4 _)) ?_)
         | (refine callQG (fun hc => (h4 _)) ?_)
         | (refine callS (wsLeg_gives x _) ?_)
         | (refine callQ (wsLeg_gives x _) ?_)
         | (refine callG (fun hc => (wsLeg_gives x _)) ?_)
         | (refine callQG (fun hc => (wsLeg_gives x _)) ?_)
         | (refine callS (implLegOk_gives l _) ?_)
         | (refine callQ (implLegOk_gives l _) ?_)
         | (refine callG (fun hc => (implLegOk_gives l _)) ?_)
         | (refine callQG (fun hc => (implLegOk_gives l _)) ?_)
         | (refine callS (specLegOk_gives l _) ?_)
         | (refine callQ (specLegOk_gives l _) ?_)
         | (refine callG (fun hc => (specLegOk_gives l _)) ?_)
         | (refine callQG (fun hc => (specLegOk_gives l _)) ?_)); simp -implicitDefEqProofs only [← legB_spec, hw, push_cast, Nat.reduceEqDiff, Nat.reduceBEq, Nat.reduceBNe, Nat.reduceAdd, Nat.reduceMul, Nat.reduceLT, Nat.reduceLeDiff, Nat.reduceSub, reduceCtorEq, Int.reduceToNat, ↓reduceIte]))
  all_goals first
    | omega
    | (simp only [bne_self_eq_false, Bool.false_eq_true, or_self] at hx; done)
    | exact (by assumption : o.seats < 0 → (less == ok) = false) (by assumption)
    | (by_cases hn : o.seats < 0
       · exact .inl ⟨hn, by rw [w2 hn]; exact beq_self_eq_true _⟩
       · exact .inr ⟨by omega, w3 (by omega)⟩)
    | trace_state
end Go.Proofs.Ytmehbbepppjikaa

namespace Go.Proofs.Ytmehbbepppjikaa
open Go.Av
set_option maxRecDepth 10000
set_option maxHeartbeats 1000000
set_option linter.unusedSimpArgs false
set_option linter.unusedVariables false

theorem room_hold {l x : Leg} (hl : LegP l) (hx : LegP x) (e : x.limits = l.limits) {n : Int} (n0 : 0 ≤ n) (hu : ∀ c : Int, usedI l c ≤ usedI x c ∧ usedI x c ≤ usedI l c + n) : ∀ {k : Nat}, k ≤ 3 → roomW l 9 k - n ≤ roomW x 9 k ∧ roomW x 9 k ≤ roomW l 9 k
  | 0, _ => by simp only [roomW]; omega
  | k + 1, hk => by
    have ih := room_hold hl hx e n0 hu (k := k) (by omega)
    have u1 := hl.usedI (c := (k : Int)) (by omega)
    have u2 := hx.usedI (c := (k : Int)) (by omega)
    have l1 := hl.lim k (by omega)
    have l2 := hx.lim k (by omega)
    have c1 := hl.cap
    have c2 := hx.cap
    have h1 := hu k
    rw [e] at l2
    rw [roomW, roomW, e, wrap_id (by omega) (by omega), wrap_id (by omega) (by omega)]
    omega
theorem le_room {l : Leg} (hl : LegP l) {v s : Int} (hs : v ≤ s) : ∀ {k : Nat}, k ≤ 3 → (∀ i : Nat, i < k → v ≤ l.limits.getD i 0 - usedI l i) → v ≤ roomW l s k
  | 0, _, _ => hs
  | k + 1, hk, hv => by
    have ih := le_room hl hs (k := k) (by omega) (fun i hi => hv i (by omega))
    have u1 := hl.usedI (c := (k : Int)) (by omega)
    have l1 := hl.lim k (by omega)
    have c1 := hl.cap
    have := hv k (by omega)
    rw [roomW, wrap_id (by omega) (by omega)]
    omega
theorem insert_len (xs : List Hold) (o : Hold) {k : Nat} (hk : k ≤ xs.length) : (xs.take k ++ o :: xs.drop k).length = xs.length + 1 := by
  simp only [List.length_append, List.length_cons, List.length_take, List.length_drop]
  omega
theorem placeN_le (l : Leg) (n : Int) : placeN l n ≤ l.holds.length := whileN_le _ _
theorem placeN_lt {l : Leg} {n : Int} {i : Nat} (hi : i < placeN l n) : (l.holds.getD i default).txn < n := by
  have := whileN_lt (p := fun x : Hold => decide (x.txn < n)) default hi
  simpa using this
theorem drop_hold (l : Leg) (o : Hold) : dropL (holdL l o) o.txn = l := by
  have hpl := placeN_le l o.txn
  have hlen := insert_len l.holds o hpl
  have hp : placeN (holdL l o) o.txn = placeN l o.txn := whileN_at default (by show _ ≤ (l.holds.take _ ++ o :: l.holds.drop _).length; omega) (fun i hi => decide_eq_true (by
      show ((l.holds.take (placeN l o.txn) ++ o :: l.holds.drop (placeN l o.txn)).getD i default).txn < o.txn
      rw [getD_insert _ hpl, if_pos hi]
      exact placeN_lt hi)) (fun _ => decide_eq_false (by
      show ¬ ((l.holds.take (placeN l o.txn) ++ o :: l.holds.drop (placeN l o.txn)).getD (placeN l o.txn) default).txn < o.txn
      rw [getD_insert _ hpl, if_neg (Nat.lt_irrefl _), if_pos rfl]
      exact Int.lt_irrefl _))
  have ht : thereB (holdL l o) o.txn = true := by
    rw [thereB, hp, Bool.and_eq_true, decide_eq_true_eq, decide_eq_true_eq]
    show placeN l o.txn < (l.holds.take (placeN l o.txn) ++ o :: l.holds.drop (placeN l o.txn)).length ∧ ((l.holds.take (placeN l o.txn) ++ o :: l.holds.drop (placeN l o.txn)).getD (placeN l o.txn) default).txn = o.txn
    rw [getD_insert _ hpl, if_neg (Nat.lt_irrefl _), if_pos rfl]
    exact ⟨by omega, rfl⟩
  rw [dropL, ht, if_pos rfl, hp]
  have he : (holdL l o).holds.eraseIdx (placeN l o.txn) = l.holds := by
    show (l.holds.take (placeN l o.txn) ++ o :: l.holds.drop (placeN l o.txn)).eraseIdx (placeN l o.txn) = l.holds
    have h1 : (l.holds.take (placeN l o.txn)).length = placeN l o.txn := by rw [List.length_take]; omega
    rw [List.eraseIdx_append_of_length_le (by omega), h1, Nat.sub_self]
    exact List.take_append_drop _ _
  rw [he]
  rfl
theorem hold_facts {l : Leg} {o : Hold} {s : Int} (hh : heldB l o s = true) :
    legB l = true ∧ legB (heldV l o s) = true ∧ legRoomV (heldV l o s) o.cls ≤ legRoomV l o.cls ∧ 0 ≤ legRoomV l o.cls ∧ legRoomV l o.cls ≤ 9 ∧ -9 ≤ o.seats ∧ o.seats ≤ 9 ∧
    (o.seats < 0 → legRoomV l o.cls ≤ legRoomV (heldV l o s) o.cls) ∧ (0 ≤ o.seats → legRoomV l o.cls - o.seats ≤ legRoomV (heldV l o s) o.cls ∧ o.seats ≤ legRoomV l o.cls) ∧ dropL (heldV l o s) o.txn = l := by
  rw [heldB, Bool.and_eq_true] at hh
  have hp := legP_of hh.1
  have hx := hold_ok hp hh.2
  obtain ⟨t1, t2, t3, t4, t5, t6, t7⟩ := (fitB_iff hp).1 (canB_le hh.2)
  have t4' := inB_iff.1 t4
  have hcap := hp.cap
  have e : heldV l o s = holdL l o := by rw [heldV, hh.1, hh.2, if_pos rfl, if_pos rfl]
  rw [e, hh.1, hx.mk_leg, legRoomV, legRoomV, hh.1, hx.mk_leg, t4]
  simp only [Bool.and_self, if_true]
  have hr := hp.roomW (k := o.cls.toNat) (by omega)
  have hlm := hp.lim o.cls.toNat (by omega)
  have hcan := hh.2
  rw [canB, canB_le hh.2, Bool.true_and] at hcan
  have hlo : ∀ c, 0 ≤ upS c o := fun c => upS_nn c o
  refine ⟨trivial, trivial, ?_, hr.2.1, by omega, by omega, by omega, fun h0 => ?_, fun h0 => ?_, drop_hold l o⟩
  · by_cases h0 : 0 < o.seats
    · exact (room_hold hp hx rfl (n := o.seats) (by omega) (fun c => by have := hold_used l o c; have := hlo c; rw [upS] at *; split at * <;> omega) (by omega)).2
    · exact (room_hold hp hx rfl (n := 0) (by omega) (fun c => by have := hold_used l o c; have := hlo c; rw [upS] at *; split at * <;> omega) (by omega)).2
  · have := (room_hold hp hx rfl (n := 0) (by omega) (fun c => by have := hold_used l o c; have := hlo c; rw [upS] at *; split at * <;> omega) (k := o.cls.toNat + 1) (by omega)).1
    omega
  · have h1 := (room_hold hp hx rfl (n := o.seats) (by omega) (fun c => by have := hold_used l o c; have := hlo c; rw [upS] at *; split at * <;> omega) (k := o.cls.toNat + 1) (by omega)).1
    refine ⟨h1, ?_⟩
    rw [if_pos (by omega), Bool.and_eq_true, decide_eq_true_eq] at hcan
    exact hcan.1
theorem fnLegHold_gives (bs : List Int) (h : Hp) (hb : ∀ x, x ∈ bs → 0 ≤ x ∧ x ≤ 255) : Gives Try.prog 16 [.slice (bs.map (.int .u8)) .no] h (.bool true) := by
  have hD := fun g => drawLegHold_gives bs g hb
  generalize wantH bs = t at hD
  obtain ⟨l, o, s⟩ := t
  simp only at hD
  have h1 := fun g => implLegHold_gives l o s g
  have h2 := fun g => specLegHold_gives l o s g
  cases hh : heldB l o s with
  | false =>
    rw [hh] at h1 h2
    cases hl : legB l with
    | false =>
      generalize heldV l o s = x at h1 h2
      refine meets_of [] mixed Try.func16 rfl (by kernel_rfl) (by kernel_rfl) (by rw [Try.ntmps16]; simp only [List.length_cons, List.length_nil]; omega) (fun hf => ?_)
      rw [Try.results16]
      clear hf
      try simp -implicitDefEqProofs only [← legB_spec, hl, push_cast, Nat.reduceEqDiff, Nat.reduceBEq, Nat.reduceBNe, Nat.reduceAdd, Nat.reduceMul, Nat.reduceLT, Nat.reduceLeDiff, Nat.reduceSub, reduceCtorEq, Int.reduceToNat, ↓reduceIte]
      repeat'
        (first
         | (refine uYes ?_; first | exact List.mem_cons_self | (simp only [List.mem_cons, List.not_mem_nil, or_false, true_or, or_true]; done))
         | (refine uNo (by kernel_rfl))
         | (refine flatMk ?_; kernel_rfl)
         | (refine And.intro ?_ ?_)
         | (intro hx)
         | ((first
             | (refine callGF ?_)
             | (refine callQGF ?_)
             | (refine skipG ?_)
             | (refine callS (hD _) ?_)
             | (refine callQ (hD _) ?_)
             | (refine callG (fun hc => (hD _)) ?_)
             | (refine callQG (fun hc => (hD _)) ?_)
             | (refine callS (h1 _) ?_)
             | (refine callQ (h1 _) ?_)
             | (refine callG (fun hc => (h1 _)) ?_)
             | (refine callQG (fun hc => (h1 _)) ?_)
             | (refine callS (h2 _) ?_)
             | (refine callQ (h2 _) ?_)
             | (refine callG (fun hc => (h2 _)) ?_)
             | (refine callQG (fun hc => (h2 _)) ?_)
             | (refine callS (wsLeg_gives x _) ?_)
             | (refine callQ (wsLeg_gives x _) ?_)
             | (refine callG (fun hc => (wsLeg_gives x _)) ?_)
             | (refine callQG (fun hc => (wsLeg_gives x _)) ?_)
             | (refine callS (implLegOk_gives l _) ?_)
             | (refine callQ (implLegOk_gives l _) ?_)
             | (refine callG (fun hc => (implLegOk_gives l _)) ?_)
             | (refine callQG (fun hc => (implLegOk_gives l _)) ?_)
             | (refine callS (specLegOk_gives l _) ?_)
             | (refine callQ (specLegOk_gives l _) ?_)
             | (refine callG (fun hc => (specLegOk_gives l _)) ?_)
             | (refine callQG (fun hc => (specLegOk_gives l _)) ?_)); simp -implicitDefEqProofs only [← legB_spec, hl, push_cast, Nat.reduceEqDiff, Nat.reduceBEq, Nat.reduceBNe, Nat.reduceAdd, Nat.reduceMul, Nat.reduceLT, Nat.reduceLeDiff, Nat.reduceSub, reduceCtorEq, Int.reduceToNat, ↓reduceIte]))
      all_goals first
        | omega
        | rfl
        | (cases hx; done)
        | (simp only [bne_self_eq_false, Bool.false_eq_true, or_self] at hx; done)
        | trace_state
    | true =>
      have e : heldV l o s = l := by
        rw [heldB, hl, Bool.true_and] at hh
        rw [heldV, hl, hh]
        rfl
      rw [e] at h1 h2
      refine meets_of [] mixed Try.func16 rfl (by kernel_rfl) (by kernel_rfl) (by rw [Try.ntmps16]; simp only [List.length_cons, List.length_nil]; omega) (fun hf => ?_)
      rw [Try.results16]
      clear hf
      try simp -implicitDefEqProofs only [← legB_spec, hl, push_cast, Nat.reduceEqDiff, Nat.reduceBEq, Nat.reduceBNe, Nat.reduceAdd, Nat.reduceMul, Nat.reduceLT, Nat.reduceLeDiff, Nat.reduceSub, reduceCtorEq, Int.reduceToNat, ↓reduceIte]
      repeat'
        (first
         | (refine uYes ?_; first | exact List.mem_cons_self | (simp only [List.mem_cons, List.not_mem_nil, or_false, true_or, or_true]; done))
         | (refine uNo (by kernel_rfl))
         | (refine flatMk ?_; kernel_rfl)
         | (refine And.intro ?_ ?_)
         | (intro hx)
         | ((first
             | (refine callGF ?_)
             | (refine callQGF ?_)
             | (refine skipG ?_)
             | (refine callS (hD _) ?_)
             | (refine callQ (hD _) ?_)
             | (refine callG (fun hc => (hD _)) ?_)
             | (refine callQG (fun hc => (hD _)) ?_)
             | (refine callS (h1 _) ?_)
             | (refine callQ (h1 _) ?_)
             | (refine callG (fun hc => (h1 _)) ?_)
             | (refine callQG (fun hc => (h1 _)) ?_)
             | (refine callS (h2 _) ?_)
             | (refine callQ (h2 _) ?_)
             | (refine callG (fun hc => (h2 _)) ?_)
             | (refine callQG (fun hc => (h2 _)) ?_)
             | (refine callS (wsLeg_gives l _) ?_)
             | (refine callQ (wsLeg_gives l _) ?_)
             | (refine callG (fun hc => (wsLeg_gives l _)) ?_)
             | (refine callQG (fun hc => (wsLeg_gives l _)) ?_)
             | (refine callS (implLegOk_gives l _) ?_)
             | (refine callQ (implLegOk_gives l _) ?_)
             | (refine callG (fun hc => (implLegOk_gives l _)) ?_)
             | (refine callQG (fun hc => (implLegOk_gives l _)) ?_)
             | (refine callS (specLegOk_gives l _) ?_)
             | (refine callQ (specLegOk_gives l _) ?_)
             | (refine callG (fun hc => (specLegOk_gives l _)) ?_)
             | (refine callQG (fun hc => (specLegOk_gives l _)) ?_)); simp -implicitDefEqProofs only [← legB_spec, hl, push_cast, Nat.reduceEqDiff, Nat.reduceBEq, Nat.reduceBNe, Nat.reduceAdd, Nat.reduceMul, Nat.reduceLT, Nat.reduceLeDiff, Nat.reduceSub, reduceCtorEq, Int.reduceToNat, ↓reduceIte]))
      all_goals first
        | omega
        | rfl
        | (cases hx; done)
        | (simp only [bne_self_eq_false, Bool.false_eq_true, or_self] at hx; done)
        | trace_state
  | true =>
    rw [hh] at h1 h2
    obtain ⟨hl, k1, k2, k3, k4, k5, k6, k7, k8, k9⟩ := hold_facts hh
    generalize heldV l o s = x at h1 h2 k1 k2 k7 k8 k9
    have hK : ∀ g, Gives Try.prog 47 [x.d, .int .i64 o.txn] g l.d := fun g => by
      have := implLegDrop_gives x o.txn g
      rwa [k1, if_pos rfl, k9] at this
    have hR := fun g => implLegRoom_gives l o.cls g
    have hR2 := fun g => implLegRoom_gives x o.cls g
    generalize legRoomV l o.cls = r at hR k2 k3 k4 k7 k8
    generalize legRoomV x o.cls = q at hR2 k2 k7 k8
    have hw : IntKind.i64.wrap (r - o.seats) = r - o.seats := wrap_id (by omega) (by omega)
    have hw0 : IntKind.i64.wrap (r - 0) = r := by rw [Int.sub_zero]; exact wrap_id (by omega) (by omega)
    have hw1 : IntKind.i64.wrap r = r := wrap_id (by omega) (by omega)
    by_cases h0 : o.seats < 0
    · have q0 : decide (o.seats < 0) = true := decide_eq_true h0
      have q1 : decide (q ≤ r) = true := decide_eq_true k2
      have q2 : decide (r ≤ q) = true := decide_eq_true (k7 h0)
      have q3 : decide (0 ≤ r) = true := decide_eq_true k3
      refine meets_of [] mixed Try.func16 rfl (by kernel_rfl) (by kernel_rfl) (by rw [Try.ntmps16]; simp only [List.length_cons, List.length_nil]; omega) (fun hf => ?_)
      rw [Try.results16]
      clear hf
      try simp -implicitDefEqProofs only [← legB_spec, hl, k1, hw, hw0, hw1, q0, q1, q2, q3, push_cast, Nat.reduceEqDiff, Nat.reduceBEq, Nat.reduceBNe, Nat.reduceAdd, Nat.reduceMul, Nat.reduceLT, Nat.reduceLeDiff, Nat.reduceSub, reduceCtorEq, Int.reduceToNat, ↓reduceIte]
      repeat'
        (first
         | (refine uYes ?_; first | exact List.mem_cons_self | (simp only [List.mem_cons, List.not_mem_nil, or_false, true_or, or_true]; done))
         | (refine uNo (by kernel_rfl))
         | (refine flatMk ?_; kernel_rfl)
         | (refine And.intro ?_ ?_)
         | (intro hx)
         | ((first
             | (refine callGF ?_)
             | (refine callQGF ?_)
             | (refine skipG ?_)
             | (refine callS (hD _) ?_)
             | (refine callQ (hD _) ?_)
             | (refine callG (fun hc => (hD _)) ?_)
             | (refine callQG (fun hc => (hD _)) ?_)
             | (refine callS (h1 _) ?_)
             | (refine callQ (h1 _) ?_)
             | (refine callG (fun hc => (h1 _)) ?_)
             | (refine callQG (fun hc => (h1 _)) ?_)
             | (refine callS (h2 _) ?_)
             | (refine callQ (h2 _) ?_)
             | (refine callG (fun hc => (h2 _)) ?_)
             | (refine callQG (fun hc => (h2 _)) ?_)
             | (refine callS (wsLeg_gives x _) ?_)
             | (refine callQ (wsLeg_gives x _) ?_)
             | (refine callG (fun hc => (wsLeg_gives x _)) ?_)
             | (refine callQG (fun hc => (wsLeg_gives x _)) ?_)
             | (refine callS (wsLeg_gives l _) ?_)
             | (refine callQ (wsLeg_gives l _) ?_)
             | (refine callG (fun hc => (wsLeg_gives l _)) ?_)
             | (refine callQG (fun hc => (wsLeg_gives l _)) ?_)
             | (refine callS (implLegOk_gives l _) ?_)
             | (refine callQ (implLegOk_gives l _) ?_)
             | (refine callG (fun hc => (implLegOk_gives l _)) ?_)
             | (refine callQG (fun hc => (implLegOk_gives l _)) ?_)
             | (refine callS (specLegOk_gives l _) ?_)
             | (refine callQ (specLegOk_gives l _) ?_)
             | (refine callG (fun hc => (specLegOk_gives l _)) ?_)
             | (refine callQG (fun hc => (specLegOk_gives l _)) ?_)
             | (refine callS (implLegOk_gives x _) ?_)
             | (refine callQ (implLegOk_gives x _) ?_)
             | (refine callG (fun hc => (implLegOk_gives x _)) ?_)
             | (refine callQG (fun hc => (implLegOk_gives x _)) ?_)
             | (refine callS (hR _) ?_)
             | (refine callQ (hR _) ?_)
             | (refine callG (fun hc => (hR _)) ?_)
             | (refine callQG (fun hc => (hR _)) ?_)
             | (refine callS (hR2 _) ?_)
             | (refine callQ (hR2 _) ?_)
             | (refine callG (fun hc => (hR2 _)) ?_)
             | (refine callQG (fun hc => (hR2 _)) ?_)
             | (refine callS (hK _) ?_)
             | (refine callQ (hK _) ?_)
             | (refine callG (fun hc => (hK _)) ?_)
             | (refine callQG (fun hc => (hK _)) ?_)); simp -implicitDefEqProofs only [← legB_spec, hl, k1, hw, hw0, hw1, q0, q1, q2, q3, push_cast, Nat.reduceEqDiff, Nat.reduceBEq, Nat.reduceBNe, Nat.reduceAdd, Nat.reduceMul, Nat.reduceLT, Nat.reduceLeDiff, Nat.reduceSub, reduceCtorEq, Int.reduceToNat, ↓reduceIte]))
      all_goals first
        | omega
        | rfl
        | (cases hx; done)
        | (simp only [bne_self_eq_false, Bool.false_eq_true, or_self] at hx; done)
        | trace_state
    · have q0 : decide (o.seats < 0) = false := decide_eq_false h0
      have q1 : decide (q ≤ r) = true := decide_eq_true k2
      have q2 : decide (r - o.seats ≤ q) = true := decide_eq_true (k8 (by omega)).1
      have q3 : decide (o.seats ≤ r) = true := decide_eq_true (k8 (by omega)).2
      refine meets_of [] mixed Try.func16 rfl (by kernel_rfl) (by kernel_rfl) (by rw [Try.ntmps16]; simp only [List.length_cons, List.length_nil]; omega) (fun hf => ?_)
      rw [Try.results16]
      clear hf
      try simp -implicitDefEqProofs only [← legB_spec, hl, k1, hw, hw0, hw1, q0, q1, q2, q3, push_cast, Nat.reduceEqDiff, Nat.reduceBEq, Nat.reduceBNe, Nat.reduceAdd, Nat.reduceMul, Nat.reduceLT, Nat.reduceLeDiff, Nat.reduceSub, reduceCtorEq, Int.reduceToNat, ↓reduceIte]
      repeat'
        (first
         | (refine uYes ?_; first | exact List.mem_cons_self | (simp only [List.mem_cons, List.not_mem_nil, or_false, true_or, or_true]; done))
         | (refine uNo (by kernel_rfl))
         | (refine flatMk ?_; kernel_rfl)
         | (refine And.intro ?_ ?_)
         | (intro hx)
         | ((first
             | (refine callGF ?_)
             | (refine callQGF ?_)
             | (refine skipG ?_)
             | (refine callS (hD _) ?_)
             | (refine callQ (hD _) ?_)
             | (refine callG (fun hc => (hD _)) ?_)
             | (refine callQG (fun hc => (hD _)) ?_)
             | (refine callS (h1 _) ?_)
             | (refine callQ (h1 _) ?_)
             | (refine callG (fun hc => (h1 _)) ?_)
             | (refine callQG (fun hc => (h1 _)) ?_)
             | (refine callS (h2 _) ?_)
             | (refine callQ (h2 _) ?_)
             | (refine callG (fun hc => (h2 _)) ?_)
             | (refine callQG (fun hc => (h2 _)) ?_)
             | (refine callS (wsLeg_gives x _) ?_)
             | (refine callQ (wsLeg_gives x _) ?_)
             | (refine callG (fun hc => (wsLeg_gives x _)) ?_)
             | (refine callQG (fun hc => (wsLeg_gives x _)) ?_)
             | (refine callS (wsLeg_gives l _) ?_)
             | (refine callQ (wsLeg_gives l _) ?_)
             | (refine callG (fun hc => (wsLeg_gives l _)) ?_)
             | (refine callQG (fun hc => (wsLeg_gives l _)) ?_)
             | (refine callS (implLegOk_gives l _) ?_)
             | (refine callQ (implLegOk_gives l _) ?_)
             | (refine callG (fun hc => (implLegOk_gives l _)) ?_)
             | (refine callQG (fun hc => (implLegOk_gives l _)) ?_)
             | (refine callS (specLegOk_gives l _) ?_)
             | (refine callQ (specLegOk_gives l _) ?_)
             | (refine callG (fun hc => (specLegOk_gives l _)) ?_)
             | (refine callQG (fun hc => (specLegOk_gives l _)) ?_)
             | (refine callS (implLegOk_gives x _) ?_)
             | (refine callQ (implLegOk_gives x _) ?_)
             | (refine callG (fun hc => (implLegOk_gives x _)) ?_)
             | (refine callQG (fun hc => (implLegOk_gives x _)) ?_)
             | (refine callS (hR _) ?_)
             | (refine callQ (hR _) ?_)
             | (refine callG (fun hc => (hR _)) ?_)
             | (refine callQG (fun hc => (hR _)) ?_)
             | (refine callS (hR2 _) ?_)
             | (refine callQ (hR2 _) ?_)
             | (refine callG (fun hc => (hR2 _)) ?_)
             | (refine callQG (fun hc => (hR2 _)) ?_)
             | (refine callS (hK _) ?_)
             | (refine callQ (hK _) ?_)
             | (refine callG (fun hc => (hK _)) ?_)
             | (refine callQG (fun hc => (hK _)) ?_)); simp -implicitDefEqProofs only [← legB_spec, hl, k1, hw, hw0, hw1, q0, q1, q2, q3, push_cast, Nat.reduceEqDiff, Nat.reduceBEq, Nat.reduceBNe, Nat.reduceAdd, Nat.reduceMul, Nat.reduceLT, Nat.reduceLeDiff, Nat.reduceSub, reduceCtorEq, Int.reduceToNat, ↓reduceIte]))
      all_goals first
        | omega
        | rfl
        | (cases hx; done)
        | (simp only [bne_self_eq_false, Bool.false_eq_true, or_self] at hx; done)
        | trace_state
end Go.Proofs.Ytmehbbepppjikaa

namespace Go.Proofs.Ytmehbbepppjikaa
open Go.Av
set_option maxRecDepth 10000
set_option maxHeartbeats 1000000
set_option linter.unusedSimpArgs false
set_option linter.unusedVariables false

/-- a hold put in its place -/
def insH (o : Hold) : List Hold → List Hold
  | [] => [o]
  | x :: xs => if x.txn < o.txn then x :: insH o xs else o :: x :: xs
theorem insH_eq (o : Hold) : ∀ xs : List Hold, xs.take (whileN (fun x : Hold => decide (x.txn < o.txn)) xs) ++ o :: xs.drop (whileN (fun x : Hold => decide (x.txn < o.txn)) xs) = insH o xs
  | [] => rfl
  | x :: xs => by
    have ih := insH_eq o xs
    by_cases h : x.txn < o.txn
    · rw [insH, if_pos h, ← ih]
      have e : whileN (fun x : Hold => decide (x.txn < o.txn)) (x :: xs) = whileN (fun x : Hold => decide (x.txn < o.txn)) xs + 1 := by simp [whileN, h]
      rw [e, List.take_succ_cons, List.drop_succ_cons]
      rfl
    · rw [insH, if_neg h]
      have e : whileN (fun x : Hold => decide (x.txn < o.txn)) (x :: xs) = 0 := by simp [whileN, h]
      rw [e]
      rfl
theorem insH_comm {a b : Hold} (h : a.txn ≠ b.txn) : ∀ xs : List Hold, insH b (insH a xs) = insH a (insH b xs)
  | [] => by
    simp only [insH]
    by_cases e : a.txn < b.txn
    · rw [if_pos e, if_neg (by omega)]
    · rw [if_neg e, if_pos (by omega)]
  | x :: xs => by
    have ih := insH_comm h xs
    by_cases h1 : x.txn < a.txn <;> by_cases h2 : x.txn < b.txn
    · simp only [insH, if_pos h1, if_pos h2, ih]
    · simp only [insH, if_pos h1, if_neg h2, show b.txn < a.txn by omega, if_true]
    · simp only [insH, if_neg h1, if_pos h2, show a.txn < b.txn by omega, if_true]
    · by_cases e : a.txn < b.txn
      · simp only [insH, if_neg h1, if_neg h2, e, if_true, show ¬ b.txn < a.txn by omega, if_false]
      · simp only [insH, if_neg h1, if_neg h2, e, if_false, show b.txn < a.txn by omega, if_true]
theorem holdL_ins (l : Leg) (o : Hold) : holdL l o = { l with holds := insH o l.holds } := by
  rw [holdL, ← insH_eq]
  rfl
theorem holdL_comm (l : Leg) {a b : Hold} (h : a.txn ≠ b.txn) : holdL (holdL l a) b = holdL (holdL l b) a := by
  rw [holdL_ins (holdL l a), holdL_ins (holdL l b), holdL_ins l a, holdL_ins l b]
  simp only [insH_comm h]
theorem there_hold {l : Leg} (hp : LegP l) {o : Hold} {n : Int} (h1 : thereB l n = false) (h2 : o.txn ≠ n) : thereB (holdL l o) n = false := by
  refine there_gone fun i hi => ?_
  have hpl := placeN_le l o.txn
  have hlen := insert_len l.holds o hpl
  replace hi : i < (l.holds.take (placeN l o.txn) ++ o :: l.holds.drop (placeN l o.txn)).length := hi
  show ((l.holds.take (placeN l o.txn) ++ o :: l.holds.drop (placeN l o.txn)).getD i default).txn ≠ n
  rw [getD_insert _ hpl]
  split
  · exact not_there hp h1 i (by omega)
  · split
    · exact h2
    · exact not_there hp h1 (i - 1) (by omega)
theorem there_less {l : Leg} {o : Hold} {n : Int} (hx : LegP (holdL l o)) (h1 : thereB (holdL l o) n = false) : thereB l n = false := by
  refine there_gone fun i hi => ?_
  have hpl := placeN_le l o.txn
  have hlen := insert_len l.holds o hpl
  have hn := not_there hx h1
  replace hn : ∀ i, i < (l.holds.take (placeN l o.txn) ++ o :: l.holds.drop (placeN l o.txn)).length → ((l.holds.take (placeN l o.txn) ++ o :: l.holds.drop (placeN l o.txn)).getD i default).txn ≠ n := hn
  by_cases h2 : i < placeN l o.txn
  · have := hn i (by omega)
    rwa [getD_insert _ hpl, if_pos h2] at this
  · have := hn (i + 1) (by omega)
    rwa [getD_insert _ hpl, if_neg (by omega), if_neg (by omega), Nat.add_sub_cancel] at this
theorem turn_can {l : Leg} (hp : LegP l) {a b : Hold} (hne : a.txn ≠ b.txn) (ha : canB l a 1000000000 = true) (hb : canB (holdL l a) b 1000000000 = true) :
    canB l b 1000000000 = true ∧ canB (holdL l b) a 1000000000 = true := by
  have hx := hold_ok hp ha
  have hz := hold_ok hx hb
  obtain ⟨a1, a2, a3, a4, a5, a6, a7⟩ := (fitB_iff hp).1 (canB_le ha)
  obtain ⟨b1, b2, b3, b4, b5, b6, b7⟩ := (fitB_iff hx).1 (canB_le hb)
  have a4' := inB_iff.1 a4
  have b4' := inB_iff.1 b4
  have hlx : (holdL l a).holds.length = l.holds.length + 1 := insert_len l.holds a (placeN_le l a.txn)
  have hly : (holdL l b).holds.length = l.holds.length + 1 := insert_len l.holds b (placeN_le l b.txn)
  have hcap := hp.cap
  have hfb : fitB l b = true := (fitB_iff hp).2 ⟨there_less hx b1, by omega, b3, b4, b5, b6, b7⟩
  have k1 := hb
  rw [canB, canB_le hb, Bool.true_and] at k1
  have hcb : canB l b 1000000000 = true := by
    rw [canB, hfb, Bool.true_and]
    split
    · rename_i h0
      rw [if_pos h0, Bool.and_eq_true, decide_eq_true_eq, decide_eq_true_eq] at k1
      rw [Bool.and_eq_true, decide_eq_true_eq, decide_eq_true_eq]
      refine ⟨?_, (bidV_range hp).2⟩
      have := (room_hold hp hx rfl (n := 9) (by omega) (fun c => by have := hold_used l a c; have := upS_nn c a; rw [upS] at *; split at * <;> omega) (k := b.cls.toNat + 1) (by omega)).2
      omega
    · rename_i h0
      rw [if_neg h0, decide_eq_true_eq] at k1
      rw [decide_eq_true_eq]
      have e1 := hp.backI b.cls
      have e2 := hx.backI b.cls
      have e3 := hold_back l a b.cls
      have e4 := dnS_nn b.cls a
      have e5 : (holdL l a).sold = l.sold := rfl
      rw [e5] at k1
      omega
  refine ⟨hcb, ?_⟩
  have hy := hold_ok hp hcb
  have hfa : fitB (holdL l b) a = true := (fitB_iff hy).2 ⟨there_hold hp a1 (fun e => hne e.symm), by omega, a3, a4, a5, a6, a7⟩
  rw [canB, hfa, Bool.true_and]
  split
  · rename_i h0
    rw [Bool.and_eq_true, decide_eq_true_eq, decide_eq_true_eq]
    refine ⟨le_room hy (by omega) (by omega) fun i hi => ?_, (bidV_range hy).2⟩
    have u1 := hz.used' i (by omega)
    have u2 := hold_used (holdL l a) b i
    have u3 := hold_used l a i
    have u4 := hold_used l b i
    have u5 : upS i a = a.seats := by rw [upS, if_pos ⟨by omega, h0⟩]
    have e1 : (holdL (holdL l a) b).limits = l.limits := rfl
    have e2 : (holdL l b).limits = l.limits := rfl
    rw [e1] at u1
    rw [e2]
    omega
  · rename_i h0
    rw [decide_eq_true_eq]
    have u1 := hz.back' a.cls.toNat (by omega)
    rw [show ((a.cls.toNat : Nat) : Int) = a.cls by omega] at u1
    have u2 := hold_back (holdL l a) b a.cls
    have u3 := hold_back l a a.cls
    have u4 := hold_back l b a.cls
    have u5 : dnS a.cls a = -a.seats := by rw [dnS, if_pos ⟨rfl, by omega⟩]
    have e1 : (holdL (holdL l a) b).sold = l.sold := rfl
    have e2 : (holdL l b).sold = l.sold := rfl
    have e3 := hy.backI a.cls
    rw [e1] at u1
    rw [e2]
    omega
theorem turn_facts {l : Leg} {a b : Hold} (hne : a.txn ≠ b.txn) (ha : heldB l a 1000000000 = true) (hb : heldB (heldV l a 1000000000) b 1000000000 = true) :
    heldB l b 1000000000 = true ∧ heldB (heldV l b 1000000000) a 1000000000 = true ∧ heldV (heldV l a 1000000000) b 1000000000 = heldV (heldV l b 1000000000) a 1000000000 := by
  rw [heldB, Bool.and_eq_true] at ha
  have hp := legP_of ha.1
  have hx := hold_ok hp ha.2
  have e1 : heldV l a 1000000000 = holdL l a := by rw [heldV, ha.1, ha.2, if_pos rfl, if_pos rfl]
  rw [e1] at hb ⊢
  rw [heldB, Bool.and_eq_true] at hb
  obtain ⟨c1, c2⟩ := turn_can hp hne ha.2 hb.2
  have hy := hold_ok hp c1
  have e2 : heldV l b 1000000000 = holdL l b := by rw [heldV, ha.1, c1, if_pos rfl, if_pos rfl]
  rw [e2]
  refine ⟨by rw [heldB, ha.1, c1]; rfl, by rw [heldB, hy.mk_leg, c2]; rfl, ?_⟩
  rw [heldV, heldV, hx.mk_leg, hy.mk_leg, hb.2, c2, if_pos rfl, if_pos rfl, if_pos rfl, if_pos rfl]
  exact holdL_comm l hne
theorem fnLegTurn_gives (bs ms : List Int) (h : Hp) (hb : ∀ x, x ∈ bs → 0 ≤ x ∧ x ≤ 255) (hm : ∀ x, x ∈ ms → 0 ≤ x ∧ x ≤ 255) : Gives Try.prog 17 [.slice (bs.map (.int .u8)) .no, .slice (ms.map (.int .u8)) .no] h (.bool true) := by
  have hD := fun g => drawLegHold_gives bs g hb
  have hE := fun g => drawLegHold_gives ms g hm
  generalize wantH bs = t at hD
  obtain ⟨l, o, s⟩ := t
  generalize wantH ms = t at hE
  obtain ⟨l2, p, s2⟩ := t
  simp only at hD hE
  have h1 := fun g => implLegHold_gives l o 1000000000 g
  have h2 := fun g => specLegHold_gives l o 1000000000 g
  have h3 := fun g => implLegHold_gives (heldV l o 1000000000) p 1000000000 g
  have h4 := fun g => implLegHold_gives l p 1000000000 g
  have h5 := fun g => implLegHold_gives (heldV l p 1000000000) o 1000000000 g
  have hT : o.txn ≠ p.txn → _ → _ → _ := fun e => turn_facts (l := l) (a := o) (b := p) e
  generalize heldB l o 1000000000 = ok at h1 h2 hT
  generalize heldB (heldV l o 1000000000) p 1000000000 = one at h3 hT
  generalize heldV (heldV l o 1000000000) p 1000000000 = u at h3 hT
  generalize heldV l o 1000000000 = x at h1 h2 h3 hT
  generalize heldB l p 1000000000 = two at h4 hT
  generalize heldB (heldV l p 1000000000) o 1000000000 = three at h5 hT
  generalize heldV (heldV l p 1000000000) o 1000000000 = v at h5 hT
  generalize heldV l p 1000000000 = y at h4 h5 hT
  by_cases hg : ok = true ∧ o.txn ≠ p.txn ∧ one = true
  · obtain ⟨rfl, g2, rfl⟩ := hg
    obtain ⟨rfl, rfl, rfl⟩ := hT g2 rfl rfl
    have q0 : decide (o.txn = p.txn) = false := decide_eq_false g2
    refine meets_of [] mixed Try.func17 rfl (by kernel_rfl) (by kernel_rfl) (by rw [Try.ntmps17]; simp only [List.length_cons, List.length_nil]; omega) (fun hf => ?_)
    rw [Try.results17]
    clear hf
    try simp -implicitDefEqProofs only [← legB_spec, q0, push_cast, Nat.reduceEqDiff, Nat.reduceBEq, Nat.reduceBNe, Nat.reduceAdd, Nat.reduceMul, Nat.reduceLT, Nat.reduceLeDiff, Nat.reduceSub, reduceCtorEq, Int.reduceToNat, ↓reduceIte]
    repeat'
      (first
       | (refine uYes ?_; first | exact List.mem_cons_self | (simp only [List.mem_cons, List.not_mem_nil, or_false, true_or, or_true]; done))
       | (refine uNo (by kernel_rfl))
       | (refine flatMk ?_; kernel_rfl)
       | (refine And.intro ?_ ?_)
       | (intro hx)
       | ((first
           | (refine callGF ?_)
           | (refine callQGF ?_)
           | (refine skipG ?_)
           | (refine callS (hD _) ?_)
           | (refine callQ (hD _) ?_)
           | (refine callG (fun hc => (hD _)) ?_)
           | (refine callQG (fun hc => (hD _)) ?_)
           | (refine callS (hE _) ?_)
           | (refine callQ (hE _) ?_)
           | (refine callG (fun hc => (hE _)) ?_)
           | (refine callQG (fun hc => (hE _)) ?_)
           | (refine callS (h1 _) ?_)
           | (refine callQ (h1 _) ?_)
           | (refine callG (fun hc => (h1 _)) ?_)
           | (refine callQG (fun hc => (h1 _)) ?_)
           | (refine callS (h2 _) ?_)
           | (refine callQ (h2 _) ?_)
           | (refine callG (fun hc => (h2 _)) ?_)
           | (refine callQG (fun hc => (h2 _)) ?_)
           | (refine callS (h3 _) ?_)
           | (refine callQ (h3 _) ?_)
           | (refine callG (fun hc => (h3 _)) ?_)
           | (refine callQG (fun hc => (h3 _)) ?_)
           | (refine callS (h4 _) ?_)
           | (refine callQ (h4 _) ?_)
           | (refine callG (fun hc => (h4 _)) ?_)
           | (refine callQG (fun hc => (h4 _)) ?_)
           | (refine callS (h5 _) ?_)
           | (refine callQ (h5 _) ?_)
           | (refine callG (fun hc => (h5 _)) ?_)
           | (refine callQG (fun hc => (h5 _)) ?_)
           | (refine callS (wsLeg_gives x _) ?_)
           | (refine callQ (wsLeg_gives x _) ?_)
           | (refine callG (fun hc => (wsLeg_gives x _)) ?_)
           | (refine callQG (fun hc => (wsLeg_gives x _)) ?_)
           | (refine callS (wsLeg_gives u _) ?_)
           | (refine callQ (wsLeg_gives u _) ?_)
           | (refine callG (fun hc => (wsLeg_gives u _)) ?_)
           | (refine callQG (fun hc => (wsLeg_gives u _)) ?_)
           | (refine callS (implLegOk_gives l _) ?_)
           | (refine callQ (implLegOk_gives l _) ?_)
           | (refine callG (fun hc => (implLegOk_gives l _)) ?_)
           | (refine callQG (fun hc => (implLegOk_gives l _)) ?_)
           | (refine callS (specLegOk_gives l _) ?_)
           | (refine callQ (specLegOk_gives l _) ?_)
           | (refine callG (fun hc => (specLegOk_gives l _)) ?_)
           | (refine callQG (fun hc => (specLegOk_gives l _)) ?_)); simp -implicitDefEqProofs only [← legB_spec, q0, push_cast, Nat.reduceEqDiff, Nat.reduceBEq, Nat.reduceBNe, Nat.reduceAdd, Nat.reduceMul, Nat.reduceLT, Nat.reduceLeDiff, Nat.reduceSub, reduceCtorEq, Int.reduceToNat, ↓reduceIte]))
    all_goals first
      | omega
      | rfl
      | (rw [bne_self_eq_false] at hx; cases hx; done)
      | (cases hx; done)
      | trace_state
  · clear hT
    cases ok with
    | false =>
      refine meets_of [] mixed Try.func17 rfl (by kernel_rfl) (by kernel_rfl) (by rw [Try.ntmps17]; simp only [List.length_cons, List.length_nil]; omega) (fun hf => ?_)
      rw [Try.results17]
      clear hf
      try simp -implicitDefEqProofs only [← legB_spec, push_cast, Nat.reduceEqDiff, Nat.reduceBEq, Nat.reduceBNe, Nat.reduceAdd, Nat.reduceMul, Nat.reduceLT, Nat.reduceLeDiff, Nat.reduceSub, reduceCtorEq, Int.reduceToNat, ↓reduceIte]
      repeat'
        (first
         | (refine uYes ?_; first | exact List.mem_cons_self | (simp only [List.mem_cons, List.not_mem_nil, or_false, true_or, or_true]; done))
         | (refine uNo (by kernel_rfl))
         | (refine flatMk ?_; kernel_rfl)
         | (refine And.intro ?_ ?_)
         | (intro hx)
         | ((first
             | (refine callGF ?_)
             | (refine callQGF ?_)
             | (refine skipG ?_)
             | (refine callS (hD _) ?_)
             | (refine callQ (hD _) ?_)
             | (refine callG (fun hc => (hD _)) ?_)
             | (refine callQG (fun hc => (hD _)) ?_)
             | (refine callS (hE _) ?_)
             | (refine callQ (hE _) ?_)
             | (refine callG (fun hc => (hE _)) ?_)
             | (refine callQG (fun hc => (hE _)) ?_)
             | (refine callS (h1 _) ?_)
             | (refine callQ (h1 _) ?_)
             | (refine callG (fun hc => (h1 _)) ?_)
             | (refine callQG (fun hc => (h1 _)) ?_)
             | (refine callS (h2 _) ?_)
             | (refine callQ (h2 _) ?_)
             | (refine callG (fun hc => (h2 _)) ?_)
             | (refine callQG (fun hc => (h2 _)) ?_)
             | (refine callS (wsLeg_gives x _) ?_)
             | (refine callQ (wsLeg_gives x _) ?_)
             | (refine callG (fun hc => (wsLeg_gives x _)) ?_)
             | (refine callQG (fun hc => (wsLeg_gives x _)) ?_)
             | (refine callS (implLegOk_gives l _) ?_)
             | (refine callQ (implLegOk_gives l _) ?_)
             | (refine callG (fun hc => (implLegOk_gives l _)) ?_)
             | (refine callQG (fun hc => (implLegOk_gives l _)) ?_)
             | (refine callS (specLegOk_gives l _) ?_)
             | (refine callQ (specLegOk_gives l _) ?_)
             | (refine callG (fun hc => (specLegOk_gives l _)) ?_)
             | (refine callQG (fun hc => (specLegOk_gives l _)) ?_)); simp -implicitDefEqProofs only [← legB_spec, push_cast, Nat.reduceEqDiff, Nat.reduceBEq, Nat.reduceBNe, Nat.reduceAdd, Nat.reduceMul, Nat.reduceLT, Nat.reduceLeDiff, Nat.reduceSub, reduceCtorEq, Int.reduceToNat, ↓reduceIte]))
      all_goals first
        | omega
        | rfl
        | (cases hx; done)
        | trace_state
    | true =>
      by_cases g2 : o.txn = p.txn
      · have q0 : decide (o.txn = p.txn) = true := decide_eq_true g2
        refine meets_of [] mixed Try.func17 rfl (by kernel_rfl) (by kernel_rfl) (by rw [Try.ntmps17]; simp only [List.length_cons, List.length_nil]; omega) (fun hf => ?_)
        rw [Try.results17]
        clear hf
        try simp -implicitDefEqProofs only [← legB_spec, q0, push_cast, Nat.reduceEqDiff, Nat.reduceBEq, Nat.reduceBNe, Nat.reduceAdd, Nat.reduceMul, Nat.reduceLT, Nat.reduceLeDiff, Nat.reduceSub, reduceCtorEq, Int.reduceToNat, ↓reduceIte]
        repeat'
          (first
           | (refine uYes ?_; first | exact List.mem_cons_self | (simp only [List.mem_cons, List.not_mem_nil, or_false, true_or, or_true]; done))
           | (refine uNo (by kernel_rfl))
           | (refine flatMk ?_; kernel_rfl)
           | (refine And.intro ?_ ?_)
           | (intro hx)
           | ((first
               | (refine callGF ?_)
               | (refine callQGF ?_)
               | (refine skipG ?_)
               | (refine callS (hD _) ?_)
               | (refine callQ (hD _) ?_)
               | (refine callG (fun hc => (hD _)) ?_)
               | (refine callQG (fun hc => (hD _)) ?_)
               | (refine callS (hE _) ?_)
               | (refine callQ (hE _) ?_)
               | (refine callG (fun hc => (hE _)) ?_)
               | (refine callQG (fun hc => (hE _)) ?_)
               | (refine callS (h1 _) ?_)
               | (refine callQ (h1 _) ?_)
               | (refine callG (fun hc => (h1 _)) ?_)
               | (refine callQG (fun hc => (h1 _)) ?_)
               | (refine callS (h2 _) ?_)
               | (refine callQ (h2 _) ?_)
               | (refine callG (fun hc => (h2 _)) ?_)
               | (refine callQG (fun hc => (h2 _)) ?_)
               | (refine callS (wsLeg_gives x _) ?_)
               | (refine callQ (wsLeg_gives x _) ?_)
               | (refine callG (fun hc => (wsLeg_gives x _)) ?_)
               | (refine callQG (fun hc => (wsLeg_gives x _)) ?_)
               | (refine callS (implLegOk_gives l _) ?_)
               | (refine callQ (implLegOk_gives l _) ?_)
               | (refine callG (fun hc => (implLegOk_gives l _)) ?_)
               | (refine callQG (fun hc => (implLegOk_gives l _)) ?_)
               | (refine callS (specLegOk_gives l _) ?_)
               | (refine callQ (specLegOk_gives l _) ?_)
               | (refine callG (fun hc => (specLegOk_gives l _)) ?_)
               | (refine callQG (fun hc => (specLegOk_gives l _)) ?_)); simp -implicitDefEqProofs only [← legB_spec, q0, push_cast, Nat.reduceEqDiff, Nat.reduceBEq, Nat.reduceBNe, Nat.reduceAdd, Nat.reduceMul, Nat.reduceLT, Nat.reduceLeDiff, Nat.reduceSub, reduceCtorEq, Int.reduceToNat, ↓reduceIte]))
        all_goals first
          | omega
          | rfl
          | (cases hx; done)
          | trace_state
      · have q0 : decide (o.txn = p.txn) = false := decide_eq_false g2
        cases one with
        | true => exact absurd ⟨rfl, g2, rfl⟩ hg
        | false =>
          refine meets_of [] mixed Try.func17 rfl (by kernel_rfl) (by kernel_rfl) (by rw [Try.ntmps17]; simp only [List.length_cons, List.length_nil]; omega) (fun hf => ?_)
          rw [Try.results17]
          clear hf
          try simp -implicitDefEqProofs only [← legB_spec, q0, push_cast, Nat.reduceEqDiff, Nat.reduceBEq, Nat.reduceBNe, Nat.reduceAdd, Nat.reduceMul, Nat.reduceLT, Nat.reduceLeDiff, Nat.reduceSub, reduceCtorEq, Int.reduceToNat, ↓reduceIte]
          repeat'
            (first
             | (refine uYes ?_; first | exact List.mem_cons_self | (simp only [List.mem_cons, List.not_mem_nil, or_false, true_or, or_true]; done))
             | (refine uNo (by kernel_rfl))
             | (refine flatMk ?_; kernel_rfl)
             | (refine And.intro ?_ ?_)
             | (intro hx)
             | ((first
                 | (refine callGF ?_)
                 | (refine callQGF ?_)
                 | (refine skipG ?_)
                 | (refine callS (hD _) ?_)
                 | (refine callQ (hD _) ?_)
                 | (refine callG (fun hc => (hD _)) ?_)
                 | (refine callQG (fun hc => (hD _)) ?_)
                 | (refine callS (hE _) ?_)
                 | (refine callQ (hE _) ?_)
                 | (refine callG (fun hc => (hE _)) ?_)
                 | (refine callQG (fun hc => (hE _)) ?_)
                 | (refine callS (h1 _) ?_)
                 | (refine callQ (h1 _) ?_)
                 | (refine callG (fun hc => (h1 _)) ?_)
                 | (refine callQG (fun hc => (h1 _)) ?_)
                 | (refine callS (h2 _) ?_)
                 | (refine callQ (h2 _) ?_)
                 | (refine callG (fun hc => (h2 _)) ?_)
                 | (refine callQG (fun hc => (h2 _)) ?_)
                 | (refine callS (h3 _) ?_)
                 | (refine callQ (h3 _) ?_)
                 | (refine callG (fun hc => (h3 _)) ?_)
                 | (refine callQG (fun hc => (h3 _)) ?_)
                 | (refine callS (h4 _) ?_)
                 | (refine callQ (h4 _) ?_)
                 | (refine callG (fun hc => (h4 _)) ?_)
                 | (refine callQG (fun hc => (h4 _)) ?_)
                 | (refine callS (h5 _) ?_)
                 | (refine callQ (h5 _) ?_)
                 | (refine callG (fun hc => (h5 _)) ?_)
                 | (refine callQG (fun hc => (h5 _)) ?_)
                 | (refine callS (wsLeg_gives x _) ?_)
                 | (refine callQ (wsLeg_gives x _) ?_)
                 | (refine callG (fun hc => (wsLeg_gives x _)) ?_)
                 | (refine callQG (fun hc => (wsLeg_gives x _)) ?_)
                 | (refine callS (implLegOk_gives l _) ?_)
                 | (refine callQ (implLegOk_gives l _) ?_)
                 | (refine callG (fun hc => (implLegOk_gives l _)) ?_)
                 | (refine callQG (fun hc => (implLegOk_gives l _)) ?_)
                 | (refine callS (specLegOk_gives l _) ?_)
                 | (refine callQ (specLegOk_gives l _) ?_)
                 | (refine callG (fun hc => (specLegOk_gives l _)) ?_)
                 | (refine callQG (fun hc => (specLegOk_gives l _)) ?_)); simp -implicitDefEqProofs only [← legB_spec, q0, push_cast, Nat.reduceEqDiff, Nat.reduceBEq, Nat.reduceBNe, Nat.reduceAdd, Nat.reduceMul, Nat.reduceLT, Nat.reduceLeDiff, Nat.reduceSub, reduceCtorEq, Int.reduceToNat, ↓reduceIte]))
          all_goals first
            | omega
            | rfl
            | (rw [bne_self_eq_false] at hx; cases hx; done)
            | (cases hx; done)
            | trace_state
end Go.Proofs.Ytmehbbepppjikaa
