/- ShardNew by value, in the program too. -/
import Derived.Test.YthopahcgbbkblaaGreatDoorIu
import Derived.Test.YthopahcgbbkblaaGreatDoorEd

namespace Go.Proofs.YthopahcgbbkblaaGreatDoor
set_option linter.unusedSectionVars false
open Go.Av
variable [Av.Start]
set_option maxRecDepth 10000
set_option maxHeartbeats 1000000
set_option linter.unusedSimpArgs false
set_option linter.unusedVariables false

def FrzLn (n : Nat) (h : Hp) (cs cs' : List D) : Prop := cs'.length = cs.length ∧ ∀ k (h1 : k < cs.length) (h2 : k < cs'.length), Frz n h (cs[k]) (cs'[k])
omit [Av.Start] in
theorem FrzLn.app {n : Nat} {h : Hp} {a a' b b' : List D} (H : FrzLn n h a a') (K : FrzLn n h b b') : FrzLn n h (a ++ b) (a' ++ b') := by
  have e := H.1
  refine ⟨by rw [List.length_append, List.length_append, H.1, K.1], fun k h1 h2 => ?_⟩
  by_cases hk : k < a.length
  · rw [List.getElem_append_left hk, List.getElem_append_left (by omega)]
    exact H.2 k hk (by omega)
  · rw [List.getElem_append_right (by omega), List.getElem_append_right (by omega)]
    have hk2 : k - a.length < b.length := by rw [List.length_append] at h1; omega
    have := K.2 (k - a.length) hk2 (by rw [K.1]; exact hk2)
    simpa [e] using this
omit [Av.Start] in
theorem LegAt.frzn {n : Nat} {h : Hp} {q : Nat} {l : Leg} (H : LegAt h q l) (hn : n ≤ q) : FrzLn n h (l.dvc q) l.cs := by
  refine ⟨rfl, fun k h1 h2 => ?_⟩
  match k, h2 with
  | 0, _ => exact .refl _
  | 1, _ => exact .refl _
  | 2, _ => exact .refl _
  | 3, _ => exact .refl _
  | 4, _ => exact .refl _
  | 5, _ => exact .refl _
  | 6, _ => exact frz_of (fw_ints hn H.limits rfl)
  | 7, _ => exact frz_of (fw_ints (by omega) H.sold rfl)
  | 8, _ => exact frz_of (fw_ints (by omega) H.bids rfl)
  | 9, _ => exact frz_of (fw_holds (rest := []) (by omega) (by rw [List.append_nil]; exact H.holds) rfl)
omit [Av.Start] in
theorem netD_frzn {n : Nat} {h : Hp} : ∀ (net : List Leg) (q : Nat), n ≤ q → (∀ i, i < net.length → LegAt h (q + 5 * i) (net.getD i default)) → FrzLn n h (netD net q) (net.flatMap Leg.cs)
  | [], q, _, _ => ⟨rfl, fun k h1 => nomatch h1⟩
  | l :: ls, q, hn, H => by
    rw [netD, List.flatMap_cons]
    refine FrzLn.app (LegAt.frzn (q := q) (by simpa using H 0 (by simp)) hn) (netD_frzn ls (q + 5) (by omega) fun i hi => ?_)
    have := H (i + 1) (by simpa using hi)
    rw [show q + 5 + 5 * i = q + 5 * (i + 1) by omega]
    simpa using this
omit [Av.Start] in
theorem NetBt.fwn {n : Nat} {h : Hp} {q : Nat} {net : List Leg} (H : NetBt h q net) (hn : n ≤ q) : FWN n h (.vec q true 10 0 net.length net.length) (.slice (net.map Leg.d) .no) := by
  have hp : rowPart h q 10 0 net.length = netD net (q + 2) := by
    rw [rowPart, H.row]
    simp only [rowOf]
    rw [Nat.zero_mul, List.drop_zero, List.take_of_length_le (by rw [netD_len]; exact Nat.le_refl _)]
  obtain ⟨k1, k2⟩ := netD_frzn (n := n) net (q + 2) (by omega) H.legs
  refine ⟨.slice (chunk true 10 net.length (net.flatMap Leg.cs)) .no, .vec q true 10 0 net.length net.length (net.flatMap Leg.cs) hn (by rw [H.row]; trivial) (by rw [H.row]; simp only [rowOf, netD_len]; omega) (by rw [hp]; exact k1) ?_ (legs_cl net 0) (by omega) (fun e => nomatch e), by rw [legs_chunk net _ rfl]; exact .refl _⟩
  simp only [hp]
  exact k2
omit [Av.Start] in
theorem fwn_refl' {n : Nat} {h : Hp} (d : D) : FWN n h d d := (fw_refl n h d).n
omit [Av.Start] in
theorem shD_cl' (id : Int) (net : List Leg) (up : Bool) (n : Nat) : Cl n (shD id net up) := by
  refine .agg _ fun c hc => ?_
  simp only [List.mem_cons, List.not_mem_nil, or_false] at hc
  rcases hc with rfl | rfl | rfl | rfl | rfl | rfl
  · exact .int _ _
  · exact .slice _ _ (fun _ _ e => nomatch e)
  · exact .str _
  · exact .bool _
  · exact .slice _ _ (fun _ _ e => nomatch e)
  · exact .slice _ _ (fun _ _ e => nomatch e)
omit [Av.Start] in
theorem netBt_at (net : List Leg) (h tl : Hp) (q : Nat) (hq : q = h.length) : NetBt (h ++ (.row (netD net (q + 2)) :: netG (fun _ => .dead) net ++ tl)) q net := by
  subst hq
  exact netBt_new _ net h tl
theorem copyNet_gives (net : List Leg) (h : Hp) : Gives Tryz.prog 18 [.slice (net.map Leg.d) .no] h (.slice (net.map Leg.d) .no) := by
  refine Meets.freezeN (copyNetR net h) (NetBt.fwn ?_ (Nat.le_refl _)) (.slice _ _ (fun _ _ e => nomatch e))
  have := netBt_new (fun _ => .dead) net h []
  rwa [List.append_nil] at this
theorem implShardNew_gives (id : Int) (net : List Leg) (h : Hp) : Gives Tryz.prog 5 [.int .i64 id, .slice (net.map Leg.d) .no] h (shV id net) := by
  rw [shV]
  cases hb : shB id net with
  | false => exact implShardNew_bad id net h hb
  | true =>
    rw [shB, baseB, Bool.and_eq_true, Bool.and_eq_true, Bool.not_eq_true'] at hb
    obtain ⟨h1, h2, h3⟩ := hb
    simp only [if_true]
    refine meets_of [] mixed Tryz.func5 rfl (by kernel_rfl) (by kernel_rfl) (by rw [Tryz.ntmps5]; simp only [List.length_cons, List.length_nil]; omega) (fun hf => ?_)
    rw [Tryz.results5]
    clear hf
    try simp -implicitDefEqProofs only [h1, h2, h3, shD, push_cast, Nat.reduceEqDiff, Nat.reduceBEq, Nat.reduceBNe, Nat.reduceAdd, Nat.reduceMul, Nat.reduceLT, Nat.reduceLeDiff, Nat.reduceSub, reduceCtorEq, Int.reduceToNat, ↓reduceIte]
    repeat'
      (first
       | (refine uYes ?_; first | exact List.mem_cons_self | (simp only [List.mem_cons, List.not_mem_nil, or_false, true_or, or_true]; done))
       | (refine uNo (by kernel_rfl))
       | (refine flatMk ?_; kernel_rfl)
       | (refine And.intro ?_ ?_)
       | (intro hx)
       | ((first
           | (refine callGF ?_)
           | (refine callQGF ?_)
           | (refine skipG ?_)
           | (refine callS (isShard_gives id _) ?_)
           | (refine callQ (isShard_gives id _) ?_)
           | (refine callG (fun hc => (isShard_gives id _)) ?_)
           | (refine callQG (fun hc => (isShard_gives id _)) ?_)
           | (refine callS (implNetOk_gives net _) ?_)
           | (refine callQ (implNetOk_gives net _) ?_)
           | (refine callG (fun hc => (implNetOk_gives net _)) ?_)
           | (refine callQG (fun hc => (implNetOk_gives net _)) ?_)
           | (refine callS (heldAny_gives net _) ?_)
           | (refine callQ (heldAny_gives net _) ?_)
           | (refine callG (fun hc => (heldAny_gives net _)) ?_)
           | (refine callQG (fun hc => (heldAny_gives net _)) ?_)
           | (refine callS (copyNet_gives net _) ?_)
           | (refine callQ (copyNet_gives net _) ?_)
           | (refine callG (fun hc => (copyNet_gives net _)) ?_)
           | (refine callQG (fun hc => (copyNet_gives net _)) ?_)); simp -implicitDefEqProofs only [h1, h2, h3, shD, push_cast, Nat.reduceEqDiff, Nat.reduceBEq, Nat.reduceBNe, Nat.reduceAdd, Nat.reduceMul, Nat.reduceLT, Nat.reduceLeDiff, Nat.reduceSub, reduceCtorEq, Int.reduceToNat, ↓reduceIte]))
    all_goals first
      | trace_state
end Go.Proofs.YthopahcgbbkblaaGreatDoor
