/- ShardNew by rows; shards compared, marked, held. -/
import Derived.Test.YtcmpcpigchlhpaaHn

namespace Go.Proofs.Ytcmpcpigchlhpaa
set_option linter.unusedSectionVars false
open Go.Av
variable [Av.Start]
set_option maxRecDepth 10000
set_option maxHeartbeats 1000000
set_option linter.unusedSimpArgs false
set_option linter.unusedVariables false

/-- a shard whose nets are rows at p and q -/
def shV2 (id : Int) (n p q : Nat) : D := .agg [.int .i64 id, .vec p true 10 0 n n, .str [], .bool true, .vec q true 10 0 n n, .slice [] .no]
def shRow2 (net : List Leg) (n : Nat) : Hp := .row (netD net (n + 3)) :: (netG (fun _ => .dead) net ++ .row (netD net (n + 2 + 5 * net.length + 2)) :: netG (fun _ => .dead) net)
def shRows (net : List Leg) (n : Nat) : Hp := .dead :: shRow2 net n
theorem implShardNewR (id : Int) (net : List Leg) (h : Hp) (hb : shB id net = true) : Meets Try.prog 13 [.int .i64 id, .slice (net.map Leg.d) .no] h fun d' h' => d' = shV2 id net.length (h.length + 1) (h.length + 2 + 5 * net.length) ∧ h' = h ++ shRows net h.length := by
  rw [shB, baseB, Bool.and_eq_true, Bool.and_eq_true, Bool.not_eq_true'] at hb
  obtain ⟨h1, h2, h3⟩ := hb
  have hl : (netG (fun _ => .dead) net).length = 5 * net.length := by rw [netG_len]; omega
  refine Meets.kill (g := h ++ (.row [.int .i64 id, .vec (h.length + 1) true 10 0 net.length net.length, .str [], .bool true, .vec (h.length + 2 + 5 * net.length) true 10 0 net.length net.length, .slice [] .full] :: shRow2 net h.length)) (.app (.refl h) (.app (a := [_]) (a' := [_]) (.row _) (.refl _))) ?_
  refine meets_of [] mixed Try.func13 rfl (by kernel_rfl) (by kernel_rfl) (by rw [Try.ntmps13]; simp only [List.length_cons, List.length_nil]; omega) (fun hf => ?_)
  rw [Try.results13]
  clear hf
  try simp -implicitDefEqProofs only [h1, h2, h3, hl, shV2, shRow2, push_cast, Nat.reduceEqDiff, Nat.reduceBEq, Nat.reduceBNe, Nat.reduceAdd, Nat.reduceMul, Nat.reduceLT, Nat.reduceLeDiff, Nat.reduceSub, reduceCtorEq, Int.reduceToNat, ↓reduceIte]
  repeat'
    (first
     | (refine uYes ?_; first | exact List.mem_cons_self | (simp only [List.mem_cons, List.not_mem_nil, or_false, true_or, or_true]; done))
     | (refine uNo (by kernel_rfl))
     | (refine flatMk ?_; kernel_rfl)
     | (refine And.intro ?_ ?_)
     | (intro hx)
     | ((first
         | (refine callGF ?_)
         | (refine callQGF ?_)
         | (refine skipG ?_)
         | (refine callS (isShard_gives id _) ?_)
         | (refine callQ (isShard_gives id _) ?_)
         | (refine callG (fun hc => (isShard_gives id _)) ?_)
         | (refine callQG (fun hc => (isShard_gives id _)) ?_)
         | (refine callS (implNetOk_gives net _) ?_)
         | (refine callQ (implNetOk_gives net _) ?_)
         | (refine callG (fun hc => (implNetOk_gives net _)) ?_)
         | (refine callQG (fun hc => (implNetOk_gives net _)) ?_)
         | (refine callS (heldAny_gives net _) ?_)
         | (refine callQ (heldAny_gives net _) ?_)
         | (refine callG (fun hc => (heldAny_gives net _)) ?_)
         | (refine callQG (fun hc => (heldAny_gives net _)) ?_)
         | (refine callM (copyNetR net _) ?_)); simp -implicitDefEqProofs only [h1, h2, h3, hl, shV2, shRow2, push_cast, Nat.reduceEqDiff, Nat.reduceBEq, Nat.reduceBNe, Nat.reduceAdd, Nat.reduceMul, Nat.reduceLT, Nat.reduceLeDiff, Nat.reduceSub, reduceCtorEq, Int.reduceToNat, ↓reduceIte]))
  all_goals first
    | omega
    | (rw [List.take_of_length_le (by simp only [List.length_append, List.length_cons, hl]; omega), show h.length + 2 + 5 * net.length = h.length + (5 * net.length + 1 + 1) by omega]; done)
    | exact netD_cl _ (by omega) _ hx
    | (rcases List.mem_append.1 hx with hx | hx
       · exact netG_cl (x := fun _ => .dead) (fun _ => trivial) _ _ hx
       · rcases List.mem_cons.1 hx with rfl | hx
         · exact netD_cl _ (by omega)
         · exact netG_cl (x := fun _ => .dead) (fun _ => trivial) _ _ hx)
    | trace_state
theorem eqShardTxnS_nil (h : Hp) : Gives Try.prog 37 [.slice [] .no, .slice [] .no] h (.bool true) := by
  refine meets_of [] mixed Try.func37 rfl (by kernel_rfl) (by kernel_rfl) (by rw [Try.ntmps37]; simp only [List.length_cons, List.length_nil]; omega) (fun hf => ?_)
  rw [Try.results37]
  clear hf
  simp -implicitDefEqProofs only [push_cast, Nat.reduceEqDiff, Nat.reduceBEq, Nat.reduceBNe, Nat.reduceAdd, Nat.reduceMul, Nat.reduceLT, Nat.reduceLeDiff, Nat.reduceSub, reduceCtorEq, Int.reduceToNat, ↓reduceIte]
  try simp -implicitDefEqProofs only [push_cast, Nat.reduceEqDiff, Nat.reduceBEq, Nat.reduceBNe, Nat.reduceAdd, Nat.reduceMul, Nat.reduceLT, Nat.reduceLeDiff, Nat.reduceSub, reduceCtorEq, Int.reduceToNat, ↓reduceIte]
  repeat'
    (first
     | (refine uYes ?_; first | exact List.mem_cons_self | (simp only [List.mem_cons, List.not_mem_nil, or_false, true_or, or_true]; done))
     | (refine uNo (by kernel_rfl))
     | (refine flatMk ?_; kernel_rfl)
     | (refine And.intro ?_ ?_)
     | (intro hx)
     | ((first
         | (refine callGF ?_)
         | (refine callQGF ?_)
         | (refine skipG ?_)
         | (refine callS (in_gives _ _ _ _) ?_)
         | (refine callQ (in_gives _ _ _ _) ?_)
         | (refine callG (fun hc => (in_gives _ _ _ _)) ?_)
         | (refine callQG (fun hc => (in_gives _ _ _ _)) ?_)); simp -implicitDefEqProofs only [push_cast, Nat.reduceEqDiff, Nat.reduceBEq, Nat.reduceBNe, Nat.reduceAdd, Nat.reduceMul, Nat.reduceLT, Nat.reduceLeDiff, Nat.reduceSub, reduceCtorEq, Int.reduceToNat, ↓reduceIte]))
  refine ev_loop0 [] (fun _ : Unit => [(0, .slice [] .no), (1, .slice [] .no), (5, .int .i64 0)]) (fun _ => True) (fun _ => 0) () trivial trivial ?_ ?_
  · refine ⟨rfl, [], ?_⟩
    simp -implicitDefEqProofs only [Int.natCast_add, Int.cast_ofNat_Int, List.length_nil, Nat.le_refl, WeakTo, tokSts, tokOks, List.append_cancel_left_eq, exists_eq_left', exists_eq_left, List.append_cancel_left_eq, List.take_length, ObCl, and_true, true_and, push_cast, Nat.reduceEqDiff, Nat.reduceBEq, Nat.reduceBNe, Nat.reduceAdd, Nat.reduceMul, Nat.reduceLT, Nat.reduceLeDiff, Nat.reduceSub, reduceCtorEq, Int.reduceToNat, ↓reduceIte]
  · intro _ _
    try simp -implicitDefEqProofs only [push_cast, Nat.reduceEqDiff, Nat.reduceBEq, Nat.reduceBNe, Nat.reduceAdd, Nat.reduceMul, Nat.reduceLT, Nat.reduceLeDiff, Nat.reduceSub, reduceCtorEq, Int.reduceToNat, ↓reduceIte]
    repeat'
      (first
       | (refine uYes ?_; first | exact List.mem_cons_self | (simp only [List.mem_cons, List.not_mem_nil, or_false, true_or, or_true]; done))
       | (refine uNo (by kernel_rfl))
       | (refine flatMk ?_; kernel_rfl)
       | (refine And.intro ?_ ?_)
       | (intro hx)
       | ((first
           | (refine callGF ?_)
           | (refine callQGF ?_)
           | (refine skipG ?_)
           | (refine callS (in_gives _ _ _ _) ?_)
           | (refine callQ (in_gives _ _ _ _) ?_)
           | (refine callG (fun hc => (in_gives _ _ _ _)) ?_)
           | (refine callQG (fun hc => (in_gives _ _ _ _)) ?_)); simp -implicitDefEqProofs only [push_cast, Nat.reduceEqDiff, Nat.reduceBEq, Nat.reduceBNe, Nat.reduceAdd, Nat.reduceMul, Nat.reduceLT, Nat.reduceLeDiff, Nat.reduceSub, reduceCtorEq, Int.reduceToNat, ↓reduceIte]))
    all_goals first
      | omega
      | trace_state
theorem markShardTxnS_nil (k : Int) (h : Hp) : Gives Try.prog 42 [.slice [] .no, .int .i64 k] h (.int .i64 k) := by
  refine meets_of [] mixed Try.func42 rfl (by kernel_rfl) (by kernel_rfl) (by rw [Try.ntmps42]; simp only [List.length_cons, List.length_nil]; omega) (fun hf => ?_)
  rw [Try.results42]
  clear hf
  simp -implicitDefEqProofs only [push_cast, Nat.reduceEqDiff, Nat.reduceBEq, Nat.reduceBNe, Nat.reduceAdd, Nat.reduceMul, Nat.reduceLT, Nat.reduceLeDiff, Nat.reduceSub, reduceCtorEq, Int.reduceToNat, ↓reduceIte]
  refine ev_loop0 [] (fun _ : Unit => [(0, .slice [] .no), (1, .int .i64 k), (5, .int .i64 0)]) (fun _ => True) (fun _ => 0) () trivial trivial ?_ ?_
  · refine ⟨rfl, [], ?_⟩
    simp -implicitDefEqProofs only [Int.natCast_add, Int.cast_ofNat_Int, List.length_nil, Nat.le_refl, WeakTo, tokSts, tokOks, List.append_cancel_left_eq, exists_eq_left', exists_eq_left, List.append_cancel_left_eq, List.take_length, ObCl, and_true, true_and, push_cast, Nat.reduceEqDiff, Nat.reduceBEq, Nat.reduceBNe, Nat.reduceAdd, Nat.reduceMul, Nat.reduceLT, Nat.reduceLeDiff, Nat.reduceSub, reduceCtorEq, Int.reduceToNat, ↓reduceIte]
  · intro _ _
    try simp -implicitDefEqProofs only [push_cast, Nat.reduceEqDiff, Nat.reduceBEq, Nat.reduceBNe, Nat.reduceAdd, Nat.reduceMul, Nat.reduceLT, Nat.reduceLeDiff, Nat.reduceSub, reduceCtorEq, Int.reduceToNat, ↓reduceIte]
    repeat'
      (first
       | (refine uYes ?_; first | exact List.mem_cons_self | (simp only [List.mem_cons, List.not_mem_nil, or_false, true_or, or_true]; done))
       | (refine uNo (by kernel_rfl))
       | (refine flatMk ?_; kernel_rfl)
       | (refine And.intro ?_ ?_)
       | (intro hx)
       | ((first
           | (refine callGF ?_)
           | (refine callQGF ?_)
           | (refine skipG ?_)
           | (refine callS (in_gives _ _ _ _) ?_)
           | (refine callQ (in_gives _ _ _ _) ?_)
           | (refine callG (fun hc => (in_gives _ _ _ _)) ?_)
           | (refine callQG (fun hc => (in_gives _ _ _ _)) ?_)); simp -implicitDefEqProofs only [push_cast, Nat.reduceEqDiff, Nat.reduceBEq, Nat.reduceBNe, Nat.reduceAdd, Nat.reduceMul, Nat.reduceLT, Nat.reduceLeDiff, Nat.reduceSub, reduceCtorEq, Int.reduceToNat, ↓reduceIte]))
    all_goals first
      | omega
      | trace_state
theorem heldShardTxnS_nil (k : Int) (h : Hp) : Gives Try.prog 44 [.slice [] .no, .int .i64 k] h (.int .i64 k) := by
  refine meets_of [] mixed Try.func44 rfl (by kernel_rfl) (by kernel_rfl) (by rw [Try.ntmps44]; simp only [List.length_cons, List.length_nil]; omega) (fun hf => ?_)
  rw [Try.results44]
  clear hf
  simp -implicitDefEqProofs only [push_cast, Nat.reduceEqDiff, Nat.reduceBEq, Nat.reduceBNe, Nat.reduceAdd, Nat.reduceMul, Nat.reduceLT, Nat.reduceLeDiff, Nat.reduceSub, reduceCtorEq, Int.reduceToNat, ↓reduceIte]
  refine ev_loop0 [] (fun _ : Unit => [(0, .slice [] .no), (1, .int .i64 k), (5, .int .i64 0)]) (fun _ => True) (fun _ => 0) () trivial trivial ?_ ?_
  · refine ⟨rfl, [], ?_⟩
    simp -implicitDefEqProofs only [Int.natCast_add, Int.cast_ofNat_Int, List.length_nil, Nat.le_refl, WeakTo, tokSts, tokOks, List.append_cancel_left_eq, exists_eq_left', exists_eq_left, List.append_cancel_left_eq, List.take_length, ObCl, and_true, true_and, push_cast, Nat.reduceEqDiff, Nat.reduceBEq, Nat.reduceBNe, Nat.reduceAdd, Nat.reduceMul, Nat.reduceLT, Nat.reduceLeDiff, Nat.reduceSub, reduceCtorEq, Int.reduceToNat, ↓reduceIte]
  · intro _ _
    try simp -implicitDefEqProofs only [push_cast, Nat.reduceEqDiff, Nat.reduceBEq, Nat.reduceBNe, Nat.reduceAdd, Nat.reduceMul, Nat.reduceLT, Nat.reduceLeDiff, Nat.reduceSub, reduceCtorEq, Int.reduceToNat, ↓reduceIte]
    repeat'
      (first
       | (refine uYes ?_; first | exact List.mem_cons_self | (simp only [List.mem_cons, List.not_mem_nil, or_false, true_or, or_true]; done))
       | (refine uNo (by kernel_rfl))
       | (refine flatMk ?_; kernel_rfl)
       | (refine And.intro ?_ ?_)
       | (intro hx)
       | ((first
           | (refine callGF ?_)
           | (refine callQGF ?_)
           | (refine skipG ?_)
           | (refine callS (in_gives _ _ _ _) ?_)
           | (refine callQ (in_gives _ _ _ _) ?_)
           | (refine callG (fun hc => (in_gives _ _ _ _)) ?_)
           | (refine callQG (fun hc => (in_gives _ _ _ _)) ?_)); simp -implicitDefEqProofs only [push_cast, Nat.reduceEqDiff, Nat.reduceBEq, Nat.reduceBNe, Nat.reduceAdd, Nat.reduceMul, Nat.reduceLT, Nat.reduceLeDiff, Nat.reduceSub, reduceCtorEq, Int.reduceToNat, ↓reduceIte]))
    all_goals first
      | omega
      | trace_state
theorem eqShard_gives (id : Int) (net : List Leg) (up : Bool) (h : Hp) : Gives Try.prog 14 [shD id net up, shD id net up] h (.bool true) := by
  have he := eqSB_self eqLegB_self net
  rw [shD]
  refine meets_of [] mixed Try.func14 rfl (by kernel_rfl) (by kernel_rfl) (by rw [Try.ntmps14]; simp only [List.length_cons, List.length_nil]; omega) (fun hf => ?_)
  rw [Try.results14]
  clear hf
  try simp -implicitDefEqProofs only [he, push_cast, Nat.reduceEqDiff, Nat.reduceBEq, Nat.reduceBNe, Nat.reduceAdd, Nat.reduceMul, Nat.reduceLT, Nat.reduceLeDiff, Nat.reduceSub, reduceCtorEq, Int.reduceToNat, ↓reduceIte]
  repeat'
    (first
     | (refine uYes ?_; first | exact List.mem_cons_self | (simp only [List.mem_cons, List.not_mem_nil, or_false, true_or, or_true]; done))
     | (refine uNo (by kernel_rfl))
     | (refine flatMk ?_; kernel_rfl)
     | (refine And.intro ?_ ?_)
     | (intro hx)
     | ((first
         | (refine callGF ?_)
         | (refine callQGF ?_)
         | (refine skipG ?_)
         | (refine callS (eqLegS_gives net net _) ?_)
         | (refine callQ (eqLegS_gives net net _) ?_)
         | (refine callG (fun hc => (eqLegS_gives net net _)) ?_)
         | (refine callQG (fun hc => (eqLegS_gives net net _)) ?_)
         | (refine callS (eqShardTxnS_nil _) ?_)
         | (refine callQ (eqShardTxnS_nil _) ?_)
         | (refine callG (fun hc => (eqShardTxnS_nil _)) ?_)
         | (refine callQG (fun hc => (eqShardTxnS_nil _)) ?_)); simp -implicitDefEqProofs only [he, push_cast, Nat.reduceEqDiff, Nat.reduceBEq, Nat.reduceBNe, Nat.reduceAdd, Nat.reduceMul, Nat.reduceLT, Nat.reduceLeDiff, Nat.reduceSub, reduceCtorEq, Int.reduceToNat, ↓reduceIte]))
  all_goals first
    | (simp at hx; done)
    | trace_state
/-- a marked shard -/
def shM (id : Int) (net : List Leg) (k : Int) : D := .agg [.int .i64 id, .slice ((markNet net k).map Leg.d) .no, .str [], .bool true, .slice ((markNet net (kAt net k net.length)).map Leg.d) .no, .slice [] .no]
theorem heldShard_gives (id : Int) (net : List Leg) (k : Int) (h : Hp) (h0 : 0 ≤ k) (hB : kAt net (kAt net k net.length) net.length ≤ 4000000000000000000) : Gives Try.prog 18 [shM id net k, .int .i64 k] h (.int .i64 (kAt net (kAt net k net.length) net.length)) := by
  have k1 := kAt_le (net := net) (k0 := k) net.length (i := 0) (by omega)
  rw [kAt_zero, Nat.zero_add] at k1
  have k2 := kAt_le (net := net) (k0 := kAt net k net.length) net.length (i := 0) (by omega)
  rw [kAt_zero, Nat.zero_add] at k2
  have H1 := fun g => heldLegS_gives net k g h0 (by omega)
  have H2 := fun g => heldLegS_gives net (kAt net k net.length) g (by omega) hB
  rw [shM]
  generalize kAt net (kAt net k net.length) net.length = m2 at *
  generalize kAt net k net.length = m1 at *
  refine meets_of [] mixed Try.func18 rfl (by kernel_rfl) (by kernel_rfl) (by rw [Try.ntmps18]; simp only [List.length_cons, List.length_nil]; omega) (fun hf => ?_)
  rw [Try.results18]
  clear hf
  try simp -implicitDefEqProofs only [push_cast, Nat.reduceEqDiff, Nat.reduceBEq, Nat.reduceBNe, Nat.reduceAdd, Nat.reduceMul, Nat.reduceLT, Nat.reduceLeDiff, Nat.reduceSub, reduceCtorEq, Int.reduceToNat, ↓reduceIte]
  repeat'
    (first
     | (refine uYes ?_; first | exact List.mem_cons_self | (simp only [List.mem_cons, List.not_mem_nil, or_false, true_or, or_true]; done))
     | (refine uNo (by kernel_rfl))
     | (refine flatMk ?_; kernel_rfl)
     | (refine And.intro ?_ ?_)
     | (intro hx)
     | ((first
         | (refine callGF ?_)
         | (refine callQGF ?_)
         | (refine skipG ?_)
         | (refine callS (H1 _) ?_)
         | (refine callQ (H1 _) ?_)
         | (refine callG (fun hc => (H1 _)) ?_)
         | (refine callQG (fun hc => (H1 _)) ?_)
         | (refine callS (H2 _) ?_)
         | (refine callQ (H2 _) ?_)
         | (refine callG (fun hc => (H2 _)) ?_)
         | (refine callQG (fun hc => (H2 _)) ?_)
         | (refine callS (heldShardTxnS_nil _ _) ?_)
         | (refine callQ (heldShardTxnS_nil _ _) ?_)
         | (refine callG (fun hc => (heldShardTxnS_nil _ _)) ?_)
         | (refine callQG (fun hc => (heldShardTxnS_nil _ _)) ?_)); simp -implicitDefEqProofs only [push_cast, Nat.reduceEqDiff, Nat.reduceBEq, Nat.reduceBNe, Nat.reduceAdd, Nat.reduceMul, Nat.reduceLT, Nat.reduceLeDiff, Nat.reduceSub, reduceCtorEq, Int.reduceToNat, ↓reduceIte]))
  all_goals first
    | omega
    | trace_state
theorem markShardR (id : Int) (net : List Leg) (k : Int) (p q : Nat) (g : Hp) (H1 : NetBt g p net) (H2 : NetBt g q net) (hp : p < g.length) (hq : q < g.length) (hpq : p + 5 * net.length < q) (h0 : 0 ≤ k) (hB : kAt net (kAt net k net.length) net.length ≤ 4000000000000000000) :
    Meets Try.prog 17 [shV2 id net.length p q, .int .i64 k] g fun d' h' => d' = .int .i64 (kAt net (kAt net k net.length) net.length) ∧ h'.length = g.length + 1 ∧ (∀ r : Nat, r < g.length → (r < p ∨ q + 5 * net.length < r) → h'[r]? = g[r]?) ∧
      NetBt h' p (markNet net k) ∧ NetBt h' q (markNet net (kAt net k net.length)) := by
  have k1 := kAt_le (net := net) (k0 := k) net.length (i := 0) (by omega)
  rw [kAt_zero, Nat.zero_add] at k1
  have k2 := kAt_le (net := net) (k0 := kAt net k net.length) net.length (i := 0) (by omega)
  rw [kAt_zero, Nat.zero_add] at k2
  have hm := markNet_len net k
  have M1 := fun tl => markLegSB net p (g ++ tl) k (H1.app hp tl) (by simp; omega) h0 (by omega)
  have M2 := fun g' H hl => markLegSB net q g' (kAt net k net.length) H hl (by omega) hB
  rw [shV2]
  generalize kAt net (kAt net k net.length) net.length = m2 at *
  generalize kAt net k net.length = m1 at *
  have hqe : q + 5 * net.length < g.length := by
    rcases Nat.eq_zero_or_pos net.length with e | e
    · omega
    · have := (H2.legs (net.length - 1) (by omega)).lt
      omega
  obtain ⟨R, hR⟩ : ∃ R, R = Ob.row [D.int .i64 id, D.vec p true 10 0 net.length net.length, D.str [], D.bool true, D.vec q true 10 0 net.length net.length, D.slice [] Tok.no] := ⟨_, rfl⟩
  refine meets_ofC [] mixed Try.func17 rfl (by kernel_rfl) (by kernel_rfl) (by rw [Try.ntmps17]; simp only [List.length_cons, List.length_nil]; omega) (fun hf hcl => ?_)
  rw [Try.results17]
  clear hf
  try simp -implicitDefEqProofs only [hcl, push_cast, Nat.reduceEqDiff, Nat.reduceBEq, Nat.reduceBNe, Nat.reduceAdd, Nat.reduceMul, Nat.reduceLT, Nat.reduceLeDiff, Nat.reduceSub, reduceCtorEq, Int.reduceToNat, ↓reduceIte]
  repeat'
    (first
     | (refine uYes ?_; first | exact List.mem_cons_self | (simp only [List.mem_cons, List.not_mem_nil, or_false, true_or, or_true]; done))
     | (refine uNo (by kernel_rfl))
     | (refine flatMk ?_; kernel_rfl)
     | (refine And.intro ?_ ?_)
     | (intro hx)
     | ((first
         | (refine callGF ?_)
         | (refine callQGF ?_)
         | (refine skipG ?_)
         | (refine callMQ (M1 _) (fun g1 hg1 => ?_))); simp -implicitDefEqProofs only [hcl, push_cast, Nat.reduceEqDiff, Nat.reduceBEq, Nat.reduceBNe, Nat.reduceAdd, Nat.reduceMul, Nat.reduceLT, Nat.reduceLeDiff, Nat.reduceSub, reduceCtorEq, Int.reduceToNat, ↓reduceIte]))
  all_goals
    rw [← hR] at hg1
    have ho1 : ob g1 g.length = R := by
      rw [← (show ob (g ++ [R]) g.length = R by rw [show g.length = g.length + 0 from rfl, ob_app]; rfl), ob, ob, List.getD_eq_getElem?_getD, List.getD_eq_getElem?_getD, hg1.2.1 _ (.inr (by omega))]
    have n2 : NetBt g1 q net := (H2.app hq [R]).keep hg1.1 fun r r1 r2 => hg1.2.1 r (.inr (by omega))
    have m2' := M2 g1 n2 (by rw [hg1.1]; simp; omega)
    rw [hR] at ho1
    try simp -implicitDefEqProofs only [ho1, push_cast, Nat.reduceEqDiff, Nat.reduceBEq, Nat.reduceBNe, Nat.reduceAdd, Nat.reduceMul, Nat.reduceLT, Nat.reduceLeDiff, Nat.reduceSub, reduceCtorEq, Int.reduceToNat, ↓reduceIte]
    repeat'
      (first
       | (refine uYes ?_; first | exact List.mem_cons_self | (simp only [List.mem_cons, List.not_mem_nil, or_false, true_or, or_true]; done))
       | (refine uNo (by kernel_rfl))
       | (refine flatMk ?_; kernel_rfl)
       | (refine And.intro ?_ ?_)
       | (intro hx)
       | ((first
           | (refine callGF ?_)
           | (refine callQGF ?_)
           | (refine skipG ?_)
           | (refine callMQ m2' (fun g2 hg2 => ?_))); simp -implicitDefEqProofs only [ho1, push_cast, Nat.reduceEqDiff, Nat.reduceBEq, Nat.reduceBNe, Nat.reduceAdd, Nat.reduceMul, Nat.reduceLT, Nat.reduceLeDiff, Nat.reduceSub, reduceCtorEq, Int.reduceToNat, ↓reduceIte]))
  all_goals
    have ho2 : ob g2 g.length = ob g1 g.length := by
      rw [ob, ob, List.getD_eq_getElem?_getD, List.getD_eq_getElem?_getD, hg2.2.1 _ (.inr (by omega))]
    rw [ho1] at ho2
    try simp -implicitDefEqProofs only [ho2, push_cast, Nat.reduceEqDiff, Nat.reduceBEq, Nat.reduceBNe, Nat.reduceAdd, Nat.reduceMul, Nat.reduceLT, Nat.reduceLeDiff, Nat.reduceSub, reduceCtorEq, Int.reduceToNat, ↓reduceIte]
    repeat'
      (first
       | (refine uYes ?_; first | exact List.mem_cons_self | (simp only [List.mem_cons, List.not_mem_nil, or_false, true_or, or_true]; done))
       | (refine uNo (by kernel_rfl))
       | (refine flatMk ?_; kernel_rfl)
       | (refine And.intro ?_ ?_)
       | (intro hx)
       | ((first
           | (refine callGF ?_)
           | (refine callQGF ?_)
           | (refine skipG ?_)
           | (refine callS (markShardTxnS_nil _ _) ?_)
           | (refine callQ (markShardTxnS_nil _ _) ?_)
           | (refine callG (fun hc => (markShardTxnS_nil _ _)) ?_)
           | (refine callQG (fun hc => (markShardTxnS_nil _ _)) ?_)); simp -implicitDefEqProofs only [ho2, push_cast, Nat.reduceEqDiff, Nat.reduceBEq, Nat.reduceBNe, Nat.reduceAdd, Nat.reduceMul, Nat.reduceLT, Nat.reduceLeDiff, Nat.reduceSub, reduceCtorEq, Int.reduceToNat, ↓reduceIte]))
  all_goals first
    | omega
    | skip
  · rw [List.mem_singleton.1 hx]
    trivial
  · have e1 : g1.length = g.length + 1 := by rw [hg1.1]; simp
    have e2 : g2.length = g.length + 1 := by rw [hg2.1, e1]
    have n1 : NetBt g2 p (markNet net k) := hg1.2.2.1.keep hg2.1 fun r r1 r2 => hg2.2.1 r (.inl (by rw [hm] at r2; omega))
    refine ⟨_, .int .i64 m2, g2, .refl _, .refl _, .int _ _, ⟨by omega, Nat.le_refl _, List.take_length, fun r x hx => .inr (hg2.2.2.2 r x hx)⟩, rfl, e2, fun r r0 r1 => ?_, n1, hg2.2.2.1⟩
    rw [hg2.2.1 r (by omega), hg1.2.1 r (by omega), List.getElem?_append_left r0]
end Go.Proofs.Ytcmpcpigchlhpaa

/- The law of ShardNew. -/
namespace Go.Proofs.Ytcmpcpigchlhpaa
set_option linter.unusedSectionVars false
open Go.Av
variable [Av.Start]
set_option maxRecDepth 10000
set_option maxHeartbeats 1000000
set_option linter.unusedSimpArgs false
set_option linter.unusedVariables false

structure Halt (p : Prop) : Prop where
  go : p
omit [Av.Start] in
theorem halt {p : Prop} (h : Halt p) : p := h.go
omit [Av.Start] in
theorem shRows_len (net : List Leg) (n : Nat) : (shRows net n).length = 3 + 10 * net.length := by
  rw [shRows, shRow2, List.length_cons, List.length_cons, List.length_append, List.length_cons, netG_len]
  omega
omit [Av.Start] in
theorem shRows_at (net : List Leg) (h tl : Hp) : NetBt (h ++ (shRows net h.length ++ tl)) (h.length + 1) net ∧ NetBt (h ++ (shRows net h.length ++ tl)) (h.length + 2 + 5 * net.length) net := by
  constructor
  · have := netBt_new (fun _ => .dead) net (h ++ [.dead]) (.row (netD net (h.length + 2 + 5 * net.length + 2)) :: netG (fun _ => .dead) net ++ tl)
    simpa [shRows, shRow2] using this
  · have := netBt_new (fun _ => .dead) net (h ++ (.dead :: .row (netD net (h.length + 3)) :: netG (fun _ => .dead) net)) tl
    have hl : (h ++ (.dead :: .row (netD net (h.length + 3)) :: netG (fun _ => .dead) net)).length = h.length + 2 + 5 * net.length := by
      rw [List.length_append, List.length_cons, List.length_cons, netG_len]
      omega
    rw [hl] at this
    simpa [shRows, shRow2] using this
omit [Av.Start] in
theorem shRows_nm (net : List Leg) (n : Nat) : ∀ x, x ∈ shRows net n → NMob n x := by
  intro x hx
  have hd : ∀ q, n ≤ q → NMob n (.row (netD net q)) := fun q hq => netD_nm net hq
  rw [shRows, shRow2, List.mem_cons, List.mem_cons, List.mem_append, List.mem_cons] at hx
  rcases hx with rfl | rfl | hx | rfl | hx
  · trivial
  · exact hd _ (by omega)
  · exact netG_nm net n x hx
  · exact hd _ (by omega)
  · exact netG_nm net n x hx
omit [Av.Start] in
theorem shV2_nm (id : Int) (n p q m : Nat) (hp : m ≤ p) (hq : m ≤ q) : NM m (shV2 id n p q) := by
  refine .agg _ fun c hc => ?_
  simp only [List.mem_cons, List.not_mem_nil, or_false] at hc
  rcases hc with rfl | rfl | rfl | rfl | rfl | rfl
  · exact .int _ _
  · exact .vec _ _ _ _ _ _ hp
  · exact .str _
  · exact .bool _
  · exact .vec _ _ _ _ _ _ hq
  · exact .snil _ (fun _ _ e => nomatch e)
omit [Av.Start] in
theorem shD_cl (id : Int) (net : List Leg) (up : Bool) : Cl 0 (shD id net up) := by
  refine .agg _ fun c hc => ?_
  simp only [List.mem_cons, List.not_mem_nil, or_false] at hc
  rcases hc with rfl | rfl | rfl | rfl | rfl | rfl
  · exact .int _ _
  · exact legs_cln net 0
  · exact .str _
  · exact .bool _
  · exact legs_cln net 0
  · exact .slice _ _ (fun _ _ e => nomatch e)
omit [Av.Start] in
theorem NetBt.fw2 {h : Hp} {p q : Nat} {n1 n2 : List Leg} {n : Nat} (id : Int) (H1 : NetBt h p n1) (H2 : NetBt h q n2) (e1 : n = n1.length) (e2 : n = n2.length) :
    FWN 0 h (.agg [.int .i64 id, .vec p true 10 0 n n, .str [], .bool true, .vec q true 10 0 n n, .slice [] .no]) (.agg [.int .i64 id, .slice (n1.map Leg.d) .no, .str [], .bool true, .slice (n2.map Leg.d) .no, .slice [] .no]) :=
  fwn_agg ⟨fwn_refl _, e1 ▸ H1.fw, fwn_refl _, fwn_refl _, e2 ▸ H2.fw, fwn_refl _, trivial⟩
omit [Av.Start] in
theorem netAt_r (R : Ob) (net : List Leg) (h tl : Hp) : NetAt (h ++ (R :: .row (netC net (h.length + 1 + 1)) :: (netR net ++ tl))) (h.length + 1) net := by
  have := netAt_new net (h ++ [R]) tl
  simpa using this
omit [Av.Start] in
theorem netAt_r0 (R : Ob) (net : List Leg) (h : Hp) : NetAt (h ++ (R :: .row (netC net (h.length + 1 + 1)) :: netR net)) (h.length + 1) net := by
  have := netAt_r R net h []
  rwa [List.append_nil] at this
omit [Av.Start] in
theorem sh_at (R S : Ob) (net : List Leg) (h tl : Hp) {L p q : Nat} (hL : L = h.length + 2 + 4 * net.length) (hp : p = L + 1) (hq : q = L + 2 + 5 * net.length) :
    NetBt (h ++ (R :: S :: (netR net ++ (shRows net L ++ tl)))) p net ∧ NetBt (h ++ (R :: S :: (netR net ++ (shRows net L ++ tl)))) q net := by
  have hl : (h ++ (R :: S :: netR net)).length = L := by rw [List.length_append, List.length_cons, List.length_cons, netR_len]; omega
  have := shRows_at net (h ++ (R :: S :: netR net)) tl
  rw [hl] at this
  subst hp hq
  simpa using this
omit [Av.Start] in
theorem ob_eq {g b : Hp} {r : Nat} (e : g[r]? = b[r]?) : ob g r = ob b r := by simp only [ob, List.getD_eq_getElem?_getD, e]
omit [Av.Start] in
theorem ob_r6 (R : Ob) (h l : Hp) : ob (h ++ R :: l) h.length = R := by
  rw [show h.length = h.length + 0 from rfl, ob_app]
  rfl
omit [Av.Start] in
theorem ob_r8 (R S x : Ob) (net : List Leg) (h xs : Hp) (X : Nat) : ob (h ++ (R :: S :: (netR net ++ (shRows net X ++ x :: xs)))) (h.length + (4 * net.length + (3 + 10 * net.length) + 1 + 1)) = x := by
  have hrl : (netR net).length = 4 * net.length := by rw [netR_len]; omega
  have hsl := shRows_len net X
  rw [ob_app, ob, List.getD_eq_getElem?_getD, List.getElem?_cons_succ, List.getElem?_cons_succ, List.getElem?_append_right (by omega), List.getElem?_append_right (by omega), hrl, hsl, show 4 * net.length + (3 + 10 * net.length) - 4 * net.length - (3 + 10 * net.length) = 0 by omega]
  rfl
omit [Av.Start] in
theorem sz_kAt2 {net : List Leg} (hl : net.length ≤ 1073741824) (hf : deepD (.slice (net.map Leg.d) .no)) (hs : 0 ≤ if IntKind.i64.wrap (1048576 - net.length) < 0 then -1 else szLs (IntKind.i64.wrap (1048576 - net.length)) net) (k : Int) : k ≤ kAt net k net.length ∧ kAt net k net.length ≤ k + 20000000000 := by
  have hw : IntKind.i64.wrap (1048576 - net.length) = 1048576 - net.length := wrap_id (by omega) (by omega)
  have h1 := kAt_le (net := net) (k0 := k) net.length (i := 0) (by omega)
  rw [kAt_zero, Nat.zero_add] at h1
  rw [hw] at hs
  split at hs
  · omega
  · have := szLs_le net (n := 1048576 - net.length) k (fun l hl => legs_fit hf l hl) (by omega) (by omega) hs
    omega
omit [Av.Start] in
theorem shM_cl (id : Int) (net : List Leg) (k : Int) : Cl 0 (shM id net k) := by
  refine .agg _ fun c hc => ?_
  simp only [List.mem_cons, List.not_mem_nil, or_false] at hc
  rcases hc with rfl | rfl | rfl | rfl | rfl | rfl
  · exact .int _ _
  · exact legs_cln _ 0
  · exact .str _
  · exact .bool _
  · exact legs_cln _ 0
  · exact .slice _ _ (fun _ _ e => nomatch e)
theorem fnExactShardNew_ok (id : Int) (net : List Leg) (h : Hp) (hb : shB id net = true) : Gives Try.prog 4 [.int .i64 id, .slice (net.map Leg.d) .no] h (.bool true) := by
  have hS := fun g => specShardNew_gives id net g
  rw [shV, if_pos hb] at hS
  have hI := fun g => implShardNewR id net g hb
  refine meets_deep (enters_of Try.func4 rfl (by kernel_rfl)) fun hdp => ?_
  have hdp := hdp (.slice (net.map Leg.d) .no) (by simp)
  refine meets_of [] mixed Try.func4 rfl (by kernel_rfl) (by kernel_rfl) (by rw [Try.ntmps4]; simp only [List.length_cons, List.length_nil]; omega) (fun hf => ?_)
  rw [Try.results4]
  have hfl : net.length ≤ 1073741824 := by simpa using slice_fit (hf (.slice (net.map Leg.d) .no) (by simp))
  clear hf
  have he := eqSB_self eqLegB_self net
  have hsl := shRows_len net
  have hrl : (netR net).length = 4 * net.length := by rw [netR_len]; omega
  rcases Int.lt_or_le (if IntKind.i64.wrap (1048576 - net.length) < 0 then -1 else szLs (IntKind.i64.wrap (1048576 - net.length)) net) 0 with hs | hs
  · try simp -implicitDefEqProofs only [push_cast, Nat.reduceEqDiff, Nat.reduceBEq, Nat.reduceBNe, Nat.reduceAdd, Nat.reduceMul, Nat.reduceLT, Nat.reduceLeDiff, Nat.reduceSub, reduceCtorEq, Int.reduceToNat, ↓reduceIte]
    repeat'
      (first
       | (refine uYes ?_; first | exact List.mem_cons_self | (simp only [List.mem_cons, List.not_mem_nil, or_false, true_or, or_true]; done))
       | (refine uNo (by kernel_rfl))
       | (refine flatMk ?_; kernel_rfl)
       | (refine And.intro ?_ ?_)
       | (intro hx)
       | ((first
           | (refine callGF ?_)
           | (refine callQGF ?_)
           | (refine skipG ?_)
           | (refine callS (szLegS_gives net _ _) ?_)
           | (refine callQ (szLegS_gives net _ _) ?_)
           | (refine callG (fun hc => (szLegS_gives net _ _)) ?_)
           | (refine callQG (fun hc => (szLegS_gives net _ _)) ?_)); simp -implicitDefEqProofs only [push_cast, Nat.reduceEqDiff, Nat.reduceBEq, Nat.reduceBNe, Nat.reduceAdd, Nat.reduceMul, Nat.reduceLT, Nat.reduceLeDiff, Nat.reduceSub, reduceCtorEq, Int.reduceToNat, ↓reduceIte]))
    all_goals first
      | omega
      | trace_state
  · obtain ⟨hB0, hB⟩ := sz_kAt hfl hdp hs
    have hk : decide (kAt net 1 net.length < 0) = false := decide_eq_false (by omega)
    have K1 := sz_kAt2 hfl hdp hs 1
    have K2 := sz_kAt2 hfl hdp hs (kAt net 1 net.length)
    have hk2 : decide (kAt net (kAt net 1 net.length) net.length < 0) = false := decide_eq_false (by omega)
    have hH := fun g => heldShard_gives id net 1 g (by omega) (by omega)
    have hHC := shM_cl id net 1
    simp only [shM] at hH hHC
    have hoC : ∀ X x xs, ob (shRows net X ++ x :: xs) (3 + 10 * net.length) = x := fun X x xs => by
      rw [ob, List.getD_eq_getElem?_getD, List.getElem?_append_right (by rw [hsl]; omega), hsl, Nat.sub_self]
      rfl
    have hsC : ∀ X x xs y, (shRows net X ++ x :: xs).set (3 + 10 * net.length) y = shRows net X ++ y :: xs := fun X x xs y => by
      rw [List.set_append_right _ _ (by rw [hsl]; omega), hsl, Nat.sub_self]
      rfl
    have hoB : ∀ X x xs, ob (netR net ++ (shRows net X ++ x :: xs)) (4 * net.length + (3 + 10 * net.length)) = x := fun X x xs => by
      rw [ob, List.getD_eq_getElem?_getD, List.getElem?_append_right (by omega), List.getElem?_append_right (by rw [hsl]; omega), hrl, hsl, show 4 * net.length + (3 + 10 * net.length) - 4 * net.length - (3 + 10 * net.length) = 0 by omega]
      rfl
    have hsB : ∀ X x xs y, (netR net ++ (shRows net X ++ x :: xs)).set (4 * net.length + (3 + 10 * net.length)) y = netR net ++ (shRows net X ++ y :: xs) := fun X x xs y => by
      rw [List.set_append_right _ _ (by omega), List.set_append_right _ _ (by rw [hsl]; omega), hrl, hsl, show 4 * net.length + (3 + 10 * net.length) - 4 * net.length - (3 + 10 * net.length) = 0 by omega]
      rfl
    have hE := fun g => eqShard_gives id net true g
    have hC := shD_cl id net true
    simp only [shD] at hE hC
    try simp -implicitDefEqProofs only [he, hk, hsl, hrl, hoB, hsB, shD, shV2, push_cast, Nat.reduceEqDiff, Nat.reduceBEq, Nat.reduceBNe, Nat.reduceAdd, Nat.reduceMul, Nat.reduceLT, Nat.reduceLeDiff, Nat.reduceSub, reduceCtorEq, Int.reduceToNat, ↓reduceIte]
    repeat'
      (first
       | (refine uYes ?_; first | exact List.mem_cons_self | (simp only [List.mem_cons, List.not_mem_nil, or_false, true_or, or_true]; done))
       | (refine uNo (by kernel_rfl))
       | (refine flatMk ?_; kernel_rfl)
       | (refine And.intro ?_ ?_)
       | (intro hx)
       | ((first
           | (refine callGF ?_)
           | (refine callQGF ?_)
           | (refine skipG ?_)
           | (refine callS (szLegS_gives net _ _) ?_)
           | (refine callQ (szLegS_gives net _ _) ?_)
           | (refine callG (fun hc => (szLegS_gives net _ _)) ?_)
           | (refine callQG (fun hc => (szLegS_gives net _ _)) ?_)
           | (refine callM (dst := some 23) (toLegSR net _) ?_)
           | (refine callS (toLegS_gives net _) ?_)
           | (refine callQ (toLegS_gives net _) ?_)
           | (refine callG (fun hc => (toLegS_gives net _)) ?_)
           | (refine callQG (fun hc => (toLegS_gives net _)) ?_)
           | (refine callS (hS _) ?_)
           | (refine callQ (hS _) ?_)
           | (refine callG (fun hc => (hS _)) ?_)
           | (refine callQG (fun hc => (hS _)) ?_)
           | (refine fzNM (dst := some 26) (hI _) ⟨fwn_refl _, .int _ _, (netAt_r0 _ net _).fw, legs_cln net 0, trivial⟩ (shV2_nm _ _ _ _ _ (by rw [deadOf_length]; omega) (by rw [deadOf_length]; omega)) (fun x hx => by rw [deadOf_length] at hx; exact shRows_nm _ _ x hx) ?_)
           | (refine fzN (hE _) ⟨NetBt.fw2 id (sh_at _ _ net h _ (by omega) (by omega) rfl).1 (sh_at _ _ net h _ (by omega) rfl (by omega)).2 rfl rfl, hC, fwn_refl _, hC, trivial⟩ (.bool _) ?_)
           | (refine fzN (eqLegS_gives net net _) ⟨(netAt_r _ net _ _).fw, legs_cln net 0, fwn_refl _, legs_cln net 0, trivial⟩ (.bool _) ?_)
           | (refine callMQ (markLegSE net (h.length + 1) _ 1 (netAt_r _ net _ _) (by simp) (by omega) hB) (fun g hg => halt ?_))); simp -implicitDefEqProofs only [he, hk, hsl, hrl, hoB, hsB, shD, shV2, push_cast, Nat.reduceEqDiff, Nat.reduceBEq, Nat.reduceBNe, Nat.reduceAdd, Nat.reduceMul, Nat.reduceLT, Nat.reduceLeDiff, Nat.reduceSub, reduceCtorEq, Int.reduceToNat, ↓reduceIte]))
    all_goals try omega
    obtain ⟨hgl, hgo⟩ := hg
    have hL : h.length + (4 * net.length + 1 + 1) = h.length + 2 + 4 * net.length := by omega
    have ho6 := ob_eq (hgo h.length (.inl (by omega)))
    have ho8 := ob_eq (hgo (h.length + (4 * net.length + (3 + 10 * net.length) + 1 + 1)) (.inr (by omega)))
    rw [ob_r6] at ho6
    rw [ob_r8] at ho8
    have N1 := (sh_at _ _ net h _ hL (p := h.length + (4 * net.length + 1 + 1) + 1) (q := h.length + (4 * net.length + 1 + 1) + 2 + 5 * net.length) rfl rfl).1.keep hgl fun r r1 r2 => hgo r (.inr (by omega))
    have N2 := (sh_at _ _ net h _ hL (p := h.length + (4 * net.length + 1 + 1) + 1) (q := h.length + (4 * net.length + 1 + 1) + 2 + 5 * net.length) rfl rfl).2.keep hgl fun r r1 r2 => hgo r (.inr (by omega))
    have hgl2 : g.length = h.length + (14 * net.length + 6) := by
      rw [hgl]
      simp only [List.length_append, List.length_cons, List.length_nil, hsl, hrl]
      omega
    have hgh : ∀ r : Nat, r < h.length → g[r]? = h[r]? := fun r hr => by rw [hgo r (.inl (by omega)), List.getElem?_append_left hr]
    clear hgo hgl
    refine ⟨?_⟩
    try simp -implicitDefEqProofs only [he, hk, hsl, hrl, ho6, ho8, push_cast, Nat.reduceEqDiff, Nat.reduceBEq, Nat.reduceBNe, Nat.reduceAdd, Nat.reduceMul, Nat.reduceLT, Nat.reduceLeDiff, Nat.reduceSub, reduceCtorEq, Int.reduceToNat, ↓reduceIte]
    repeat'
      (first
       | (refine uYes ?_; first | exact List.mem_cons_self | (simp only [List.mem_cons, List.not_mem_nil, or_false, true_or, or_true]; done))
       | (refine uNo (by kernel_rfl))
       | (refine flatMk ?_; kernel_rfl)
       | (refine And.intro ?_ ?_)
       | (intro hx)
       | ((first
           | (refine callGF ?_)
           | (refine callQGF ?_)
           | (refine skipG ?_)
           | (refine fzNG (fun _ => hE _) (fun _ => ⟨NetBt.fw2 id N1 N2 rfl rfl, hC, fwn_refl _, hC, trivial⟩) (.bool _) ?_)
           | (refine callMQ (markShardR id net 1 _ _ g N1 N2 (by omega) (by omega) (by omega) (by omega) (by omega)) (fun g2 hg2 => halt ?_))); simp -implicitDefEqProofs only [he, hk, hsl, hrl, ho6, ho8, push_cast, Nat.reduceEqDiff, Nat.reduceBEq, Nat.reduceBNe, Nat.reduceAdd, Nat.reduceMul, Nat.reduceLT, Nat.reduceLeDiff, Nat.reduceSub, reduceCtorEq, Int.reduceToNat, ↓reduceIte]))
    all_goals try omega
    obtain ⟨b1, b2, b3, b4⟩ := hg2
    have hq6 : ∀ tl, ob (g2 ++ tl) h.length = ob g h.length := fun tl => (ob_app_l (by omega) tl).trans (ob_eq (b2 h.length (by omega) (.inl (by omega))))
    have hq8 : ∀ tl, ob (g2 ++ tl) (h.length + (4 * net.length + (3 + 10 * net.length) + 1 + 1)) = ob g (h.length + (4 * net.length + (3 + 10 * net.length) + 1 + 1)) := fun tl => (ob_app_l (by omega) tl).trans (ob_eq (b2 _ (by omega) (.inr (by omega))))
    have hr6 := ob_eq (b2 h.length (by omega) (.inl (by omega)))
    have hr8 := ob_eq (b2 (h.length + (4 * net.length + (3 + 10 * net.length) + 1 + 1)) (by omega) (.inr (by omega)))
    rw [ho6] at hq6 hr6
    rw [ho8] at hq8 hr8
    have hm1 := markNet_len net 1
    have hm2 := markNet_len net (kAt net 1 net.length)
    have hgh2 : ∀ r : Nat, r < h.length → g2[r]? = h[r]? := fun r hr => by rw [b2 r (by omega) (.inl (by omega)), hgh r hr]
    have hSA := shRows_at net g2
    refine ⟨?_⟩
    try simp -implicitDefEqProofs only [he, hk2, hsl, hrl, hr6, hr8, hq6, hq8, hoC, hsC, shV2, push_cast, Nat.reduceEqDiff, Nat.reduceBEq, Nat.reduceBNe, Nat.reduceAdd, Nat.reduceMul, Nat.reduceLT, Nat.reduceLeDiff, Nat.reduceSub, reduceCtorEq, Int.reduceToNat, ↓reduceIte]
    repeat'
      (first
       | (refine uYes ?_; first | exact List.mem_cons_self | (simp only [List.mem_cons, List.not_mem_nil, or_false, true_or, or_true]; done))
       | (refine uNo (by kernel_rfl))
       | (refine flatMk ?_; kernel_rfl)
       | (refine And.intro ?_ ?_)
       | (intro hx)
       | ((first
           | (refine callGF ?_)
           | (refine callQGF ?_)
           | (refine skipG ?_)
           | (refine fzN (dst := some 52) (hH _) ⟨NetBt.fw2 id b3 b4 hm1.symm hm2.symm, hHC, fwn_refl _, .int _ _, trivial⟩ (.int _ _) ?_)
           | (refine callS (toLegS_gives net _) ?_)
           | (refine callQ (toLegS_gives net _) ?_)
           | (refine callG (fun hc => (toLegS_gives net _)) ?_)
           | (refine callQG (fun hc => (toLegS_gives net _)) ?_)
           | (refine callM (dst := some 61) (hI g2) ?_)
           | (refine fzN (dst := some 64) (hE _) ⟨NetBt.fw2 id (hSA _).1 (hSA _).2 rfl rfl, hC, fwn_refl _, hC, trivial⟩ (.bool _) ?_)
           | (refine fzN (dst := some 68) (hH _) ⟨NetBt.fw2 id (b3.app (by omega) _) (b4.app (by omega) _) hm1.symm hm2.symm, hHC, fwn_refl _, .int _ _, trivial⟩ (.int _ _) ?_)); simp -implicitDefEqProofs only [he, hk2, hsl, hrl, hr6, hr8, hq6, hq8, hoC, hsC, shV2, push_cast, Nat.reduceEqDiff, Nat.reduceBEq, Nat.reduceBNe, Nat.reduceAdd, Nat.reduceMul, Nat.reduceLT, Nat.reduceLeDiff, Nat.reduceSub, reduceCtorEq, Int.reduceToNat, ↓reduceIte]))
    all_goals first
      | omega
      | exact back_old (by simp only [List.length_append]; omega) (fun r hr => by rw [List.getElem?_append_left (by omega), hgh2 r hr])
      | trace_state
theorem markLegS_nil (k : Int) (h : Hp) : Gives Try.prog 16 [.slice [] .no, .int .i64 k] h (.int .i64 k) := by
  refine meets_of [] mixed Try.func16 rfl (by kernel_rfl) (by kernel_rfl) (by rw [Try.ntmps16]; simp only [List.length_cons, List.length_nil]; omega) (fun hf => ?_)
  rw [Try.results16]
  clear hf
  simp -implicitDefEqProofs only [push_cast, Nat.reduceEqDiff, Nat.reduceBEq, Nat.reduceBNe, Nat.reduceAdd, Nat.reduceMul, Nat.reduceLT, Nat.reduceLeDiff, Nat.reduceSub, reduceCtorEq, Int.reduceToNat, ↓reduceIte]
  refine ev_loop0 [] (fun _ : Unit => [(0, .slice [] .no), (1, .int .i64 k), (5, .int .i64 0)]) (fun _ => True) (fun _ => 0) () trivial trivial ?_ ?_
  · refine ⟨rfl, [], ?_⟩
    simp -implicitDefEqProofs only [Int.natCast_add, Int.cast_ofNat_Int, List.length_nil, Nat.le_refl, WeakTo, tokSts, tokOks, List.append_cancel_left_eq, exists_eq_left', exists_eq_left, List.append_cancel_left_eq, List.take_length, ObCl, and_true, true_and, push_cast, Nat.reduceEqDiff, Nat.reduceBEq, Nat.reduceBNe, Nat.reduceAdd, Nat.reduceMul, Nat.reduceLT, Nat.reduceLeDiff, Nat.reduceSub, reduceCtorEq, Int.reduceToNat, ↓reduceIte]
  · intro _ _
    try simp -implicitDefEqProofs only [push_cast, Nat.reduceEqDiff, Nat.reduceBEq, Nat.reduceBNe, Nat.reduceAdd, Nat.reduceMul, Nat.reduceLT, Nat.reduceLeDiff, Nat.reduceSub, reduceCtorEq, Int.reduceToNat, ↓reduceIte]
    repeat'
      (first
       | (refine uYes ?_; first | exact List.mem_cons_self | (simp only [List.mem_cons, List.not_mem_nil, or_false, true_or, or_true]; done))
       | (refine uNo (by kernel_rfl))
       | (refine flatMk ?_; kernel_rfl)
       | (refine And.intro ?_ ?_)
       | (intro hx)
       | ((first
           | (refine callGF ?_)
           | (refine callQGF ?_)
           | (refine skipG ?_)
           | (refine callS (in_gives _ _ _ _) ?_)
           | (refine callQ (in_gives _ _ _ _) ?_)
           | (refine callG (fun hc => (in_gives _ _ _ _)) ?_)
           | (refine callQG (fun hc => (in_gives _ _ _ _)) ?_)); simp -implicitDefEqProofs only [push_cast, Nat.reduceEqDiff, Nat.reduceBEq, Nat.reduceBNe, Nat.reduceAdd, Nat.reduceMul, Nat.reduceLT, Nat.reduceLeDiff, Nat.reduceSub, reduceCtorEq, Int.reduceToNat, ↓reduceIte]))
    all_goals first
      | omega
      | trace_state
theorem markShard_nil (k : Int) (h : Hp) : Gives Try.prog 17 [shD 0 [] false, .int .i64 k] h (.int .i64 k) := by
  rw [shD]
  refine meets_of [] mixed Try.func17 rfl (by kernel_rfl) (by kernel_rfl) (by rw [Try.ntmps17]; simp only [List.length_cons, List.length_nil]; omega) (fun hf => ?_)
  rw [Try.results17]
  clear hf
  try simp -implicitDefEqProofs only [push_cast, Nat.reduceEqDiff, Nat.reduceBEq, Nat.reduceBNe, Nat.reduceAdd, Nat.reduceMul, Nat.reduceLT, Nat.reduceLeDiff, Nat.reduceSub, reduceCtorEq, Int.reduceToNat, ↓reduceIte]
  repeat'
    (first
     | (refine uYes ?_; first | exact List.mem_cons_self | (simp only [List.mem_cons, List.not_mem_nil, or_false, true_or, or_true]; done))
     | (refine uNo (by kernel_rfl))
     | (refine flatMk ?_; kernel_rfl)
     | (refine And.intro ?_ ?_)
     | (intro hx)
     | ((first
         | (refine callGF ?_)
         | (refine callQGF ?_)
         | (refine skipG ?_)
         | (refine callS (markLegS_nil _ _) ?_)
         | (refine callQ (markLegS_nil _ _) ?_)
         | (refine callG (fun hc => (markLegS_nil _ _)) ?_)
         | (refine callQG (fun hc => (markLegS_nil _ _)) ?_)
         | (refine callS (markShardTxnS_nil _ _) ?_)
         | (refine callQ (markShardTxnS_nil _ _) ?_)
         | (refine callG (fun hc => (markShardTxnS_nil _ _)) ?_)
         | (refine callQG (fun hc => (markShardTxnS_nil _ _)) ?_)); simp -implicitDefEqProofs only [push_cast, Nat.reduceEqDiff, Nat.reduceBEq, Nat.reduceBNe, Nat.reduceAdd, Nat.reduceMul, Nat.reduceLT, Nat.reduceLeDiff, Nat.reduceSub, reduceCtorEq, Int.reduceToNat, ↓reduceIte]))
  all_goals first
    | omega
    | trace_state
theorem heldShard_nil (k : Int) (h : Hp) (h0 : 0 ≤ k) (h1 : k ≤ 4000000000000000000) : Gives Try.prog 18 [shD 0 [] false, .int .i64 k] h (.int .i64 k) := by
  have H1 : ∀ g, Gives Try.prog 43 [.slice [] .no, .int .i64 k] g (.int .i64 k) := fun g => heldLegS_gives [] k g h0 h1
  rw [shD]
  refine meets_of [] mixed Try.func18 rfl (by kernel_rfl) (by kernel_rfl) (by rw [Try.ntmps18]; simp only [List.length_cons, List.length_nil]; omega) (fun hf => ?_)
  rw [Try.results18]
  clear hf
  try simp -implicitDefEqProofs only [push_cast, Nat.reduceEqDiff, Nat.reduceBEq, Nat.reduceBNe, Nat.reduceAdd, Nat.reduceMul, Nat.reduceLT, Nat.reduceLeDiff, Nat.reduceSub, reduceCtorEq, Int.reduceToNat, ↓reduceIte]
  repeat'
    (first
     | (refine uYes ?_; first | exact List.mem_cons_self | (simp only [List.mem_cons, List.not_mem_nil, or_false, true_or, or_true]; done))
     | (refine uNo (by kernel_rfl))
     | (refine flatMk ?_; kernel_rfl)
     | (refine And.intro ?_ ?_)
     | (intro hx)
     | ((first
         | (refine callGF ?_)
         | (refine callQGF ?_)
         | (refine skipG ?_)
         | (refine callS (H1 _) ?_)
         | (refine callQ (H1 _) ?_)
         | (refine callG (fun hc => (H1 _)) ?_)
         | (refine callQG (fun hc => (H1 _)) ?_)
         | (refine callS (heldShardTxnS_nil _ _) ?_)
         | (refine callQ (heldShardTxnS_nil _ _) ?_)
         | (refine callG (fun hc => (heldShardTxnS_nil _ _)) ?_)
         | (refine callQG (fun hc => (heldShardTxnS_nil _ _)) ?_)); simp -implicitDefEqProofs only [push_cast, Nat.reduceEqDiff, Nat.reduceBEq, Nat.reduceBNe, Nat.reduceAdd, Nat.reduceMul, Nat.reduceLT, Nat.reduceLeDiff, Nat.reduceSub, reduceCtorEq, Int.reduceToNat, ↓reduceIte]))
  all_goals first
    | omega
    | trace_state
omit [Av.Start] in
theorem shD_nm (n : Nat) : NM n (shD 0 [] false) := by
  refine .agg _ fun c hc => ?_
  simp only [List.mem_cons, List.not_mem_nil, or_false] at hc
  rcases hc with rfl | rfl | rfl | rfl | rfl | rfl
  · exact .int _ _
  · exact .snil _ (fun _ _ e => nomatch e)
  · exact .str _
  · exact .bool _
  · exact .snil _ (fun _ _ e => nomatch e)
  · exact .snil _ (fun _ _ e => nomatch e)
theorem fnExactShardNew_bad (id : Int) (net : List Leg) (h : Hp) (hb : shB id net = false) : Gives Try.prog 4 [.int .i64 id, .slice (net.map Leg.d) .no] h (.bool true) := by
  have hS := fun g => specShardNew_gives id net g
  rw [shV, hb] at hS
  simp only [Bool.false_eq_true, if_false] at hS
  have hI := fun g => implShardNew_bad id net g hb
  refine meets_deep (enters_of Try.func4 rfl (by kernel_rfl)) fun hdp => ?_
  have hdp := hdp (.slice (net.map Leg.d) .no) (by simp)
  refine meets_of [] mixed Try.func4 rfl (by kernel_rfl) (by kernel_rfl) (by rw [Try.ntmps4]; simp only [List.length_cons, List.length_nil]; omega) (fun hf => ?_)
  rw [Try.results4]
  have hfl : net.length ≤ 1073741824 := by simpa using slice_fit (hf (.slice (net.map Leg.d) .no) (by simp))
  clear hf
  have he := eqSB_self eqLegB_self net
  have hrl : (netR net).length = 4 * net.length := by rw [netR_len]; omega
  rcases Int.lt_or_le (if IntKind.i64.wrap (1048576 - net.length) < 0 then -1 else szLs (IntKind.i64.wrap (1048576 - net.length)) net) 0 with hs | hs
  · try simp -implicitDefEqProofs only [push_cast, Nat.reduceEqDiff, Nat.reduceBEq, Nat.reduceBNe, Nat.reduceAdd, Nat.reduceMul, Nat.reduceLT, Nat.reduceLeDiff, Nat.reduceSub, reduceCtorEq, Int.reduceToNat, ↓reduceIte]
    repeat'
      (first
       | (refine uYes ?_; first | exact List.mem_cons_self | (simp only [List.mem_cons, List.not_mem_nil, or_false, true_or, or_true]; done))
       | (refine uNo (by kernel_rfl))
       | (refine flatMk ?_; kernel_rfl)
       | (refine And.intro ?_ ?_)
       | (intro hx)
       | ((first
           | (refine callGF ?_)
           | (refine callQGF ?_)
           | (refine skipG ?_)
           | (refine callS (szLegS_gives net _ _) ?_)
           | (refine callQ (szLegS_gives net _ _) ?_)
           | (refine callG (fun hc => (szLegS_gives net _ _)) ?_)
           | (refine callQG (fun hc => (szLegS_gives net _ _)) ?_)); simp -implicitDefEqProofs only [push_cast, Nat.reduceEqDiff, Nat.reduceBEq, Nat.reduceBNe, Nat.reduceAdd, Nat.reduceMul, Nat.reduceLT, Nat.reduceLeDiff, Nat.reduceSub, reduceCtorEq, Int.reduceToNat, ↓reduceIte]))
    all_goals first
      | omega
      | trace_state
  · obtain ⟨hB0, hB⟩ := sz_kAt hfl hdp hs
    have hk : decide (kAt net 1 net.length < 0) = false := decide_eq_false (by omega)
    have hE := fun g => eqShard_gives 0 [] false g
    have hM := fun g => markShard_nil 1 g
    have hH := fun g => heldShard_nil 1 g (by omega) (by omega)
    have hN := shD_nm
    simp only [shD, List.map_nil] at hE hM hH hS hI hN
    have hoB : ∀ x xs, ob (netR net ++ x :: xs) (4 * net.length) = x := fun x xs => by
      rw [ob, List.getD_eq_getElem?_getD, List.getElem?_append_right (by omega), hrl, Nat.sub_self]
      rfl
    have hsB : ∀ x xs y, (netR net ++ x :: xs).set (4 * net.length) y = netR net ++ y :: xs := fun x xs y => by
      rw [List.set_append_right _ _ (by omega), hrl, Nat.sub_self]
      rfl
    try simp -implicitDefEqProofs only [he, hk, hrl, hoB, hsB, push_cast, Nat.reduceEqDiff, Nat.reduceBEq, Nat.reduceBNe, Nat.reduceAdd, Nat.reduceMul, Nat.reduceLT, Nat.reduceLeDiff, Nat.reduceSub, reduceCtorEq, Int.reduceToNat, ↓reduceIte]
    repeat'
      (first
       | (refine uYes ?_; first | exact List.mem_cons_self | (simp only [List.mem_cons, List.not_mem_nil, or_false, true_or, or_true]; done))
       | (refine uNo (by kernel_rfl))
       | (refine flatMk ?_; kernel_rfl)
       | (refine And.intro ?_ ?_)
       | (intro hx)
       | ((first
           | (refine callGF ?_)
           | (refine callQGF ?_)
           | (refine skipG ?_)
           | (refine callS (szLegS_gives net _ _) ?_)
           | (refine callQ (szLegS_gives net _ _) ?_)
           | (refine callG (fun hc => (szLegS_gives net _ _)) ?_)
           | (refine callQG (fun hc => (szLegS_gives net _ _)) ?_)
           | (refine callM (dst := some 23) (toLegSR net _) ?_)
           | (refine callS (toLegS_gives net _) ?_)
           | (refine callQ (toLegS_gives net _) ?_)
           | (refine callG (fun hc => (toLegS_gives net _)) ?_)
           | (refine callQG (fun hc => (toLegS_gives net _)) ?_)
           | (refine callS (hS _) ?_)
           | (refine callQ (hS _) ?_)
           | (refine callG (fun hc => (hS _)) ?_)
           | (refine callQG (fun hc => (hS _)) ?_)
           | (refine fzN (dst := some 26) (hI _) ⟨fwn_refl _, .int _ _, (netAt_r0 _ net _).fw, legs_cln net 0, trivial⟩ (hN _) ?_)
           | (refine callS (hE _) ?_)
           | (refine callQ (hE _) ?_)
           | (refine callG (fun hc => (hE _)) ?_)
           | (refine callQG (fun hc => (hE _)) ?_)
           | (refine fzN (eqLegS_gives net net _) ⟨(netAt_r _ net _ _).fw, legs_cln net 0, fwn_refl _, legs_cln net 0, trivial⟩ (.bool _) ?_)
           | (refine callMQ (markLegSE net (h.length + 1) _ 1 (netAt_r _ net _ _) (by simp) (by omega) hB) (fun g hg => halt ?_))); simp -implicitDefEqProofs only [he, hk, hrl, hoB, hsB, push_cast, Nat.reduceEqDiff, Nat.reduceBEq, Nat.reduceBNe, Nat.reduceAdd, Nat.reduceMul, Nat.reduceLT, Nat.reduceLeDiff, Nat.reduceSub, reduceCtorEq, Int.reduceToNat, ↓reduceIte]))
    all_goals try omega
    obtain ⟨hgl, hgo⟩ := hg
    have hp6 : ∀ (R : Ob) (l : Hp), ob (h ++ R :: l) h.length = R := fun R l => ob_r6 R h l
    have hp8 : ∀ (R S x : Ob) (l : Hp), ob (h ++ (R :: S :: (netR net ++ x :: l))) (h.length + (4 * net.length + 1 + 1)) = x := fun R S x l => by
      rw [ob_app, ob, List.getD_eq_getElem?_getD, List.getElem?_cons_succ, List.getElem?_cons_succ, ← List.getD_eq_getElem?_getD]
      exact hoB x l
    have ho6 := ob_eq (hgo h.length (.inl (by omega)))
    have ho8 := ob_eq (hgo (h.length + (4 * net.length + 1 + 1)) (.inr (by omega)))
    rw [hp6] at ho6
    rw [hp8] at ho8
    have hgl2 : g.length = h.length + (4 * net.length + 3) := by
      rw [hgl]
      simp only [List.length_append, List.length_cons, List.length_nil, hrl]
    have hgh : ∀ r : Nat, r < h.length → g[r]? = h[r]? := fun r hr => by rw [hgo r (.inl (by omega)), List.getElem?_append_left hr]
    have hq6 : ∀ tl, ob (g ++ tl) h.length = ob g h.length := fun tl => ob_app_l (by omega) tl
    have hq8 : ∀ tl, ob (g ++ tl) (h.length + (4 * net.length + 1 + 1)) = ob g (h.length + (4 * net.length + 1 + 1)) := fun tl => ob_app_l (by omega) tl
    rw [ho6] at hq6
    rw [ho8] at hq8
    clear hgo hgl
    refine ⟨?_⟩
    try simp -implicitDefEqProofs only [he, hk, hrl, ho6, ho8, hq6, hq8, push_cast, Nat.reduceEqDiff, Nat.reduceBEq, Nat.reduceBNe, Nat.reduceAdd, Nat.reduceMul, Nat.reduceLT, Nat.reduceLeDiff, Nat.reduceSub, reduceCtorEq, Int.reduceToNat, ↓reduceIte]
    repeat'
      (first
       | (refine uYes ?_; first | exact List.mem_cons_self | (simp only [List.mem_cons, List.not_mem_nil, or_false, true_or, or_true]; done))
       | (refine uNo (by kernel_rfl))
       | (refine flatMk ?_; kernel_rfl)
       | (refine And.intro ?_ ?_)
       | (intro hx)
       | ((first
           | (refine callGF ?_)
           | (refine callQGF ?_)
           | (refine skipG ?_)
           | (refine callS (hE _) ?_)
           | (refine callQ (hE _) ?_)
           | (refine callG (fun hc => (hE _)) ?_)
           | (refine callQG (fun hc => (hE _)) ?_)
           | (refine callS (hM _) ?_)
           | (refine callQ (hM _) ?_)
           | (refine callG (fun hc => (hM _)) ?_)
           | (refine callQG (fun hc => (hM _)) ?_)
           | (refine callS (hH _) ?_)
           | (refine callQ (hH _) ?_)
           | (refine callG (fun hc => (hH _)) ?_)
           | (refine callQG (fun hc => (hH _)) ?_)
           | (refine callS (toLegS_gives net _) ?_)
           | (refine callQ (toLegS_gives net _) ?_)
           | (refine callG (fun hc => (toLegS_gives net _)) ?_)
           | (refine callQG (fun hc => (toLegS_gives net _)) ?_)
           | (refine callS (hI _) ?_)
           | (refine callQ (hI _) ?_)
           | (refine callG (fun hc => (hI _)) ?_)
           | (refine callQG (fun hc => (hI _)) ?_)); simp -implicitDefEqProofs only [he, hk, hrl, ho6, ho8, hq6, hq8, push_cast, Nat.reduceEqDiff, Nat.reduceBEq, Nat.reduceBNe, Nat.reduceAdd, Nat.reduceMul, Nat.reduceLT, Nat.reduceLeDiff, Nat.reduceSub, reduceCtorEq, Int.reduceToNat, ↓reduceIte]))
    all_goals first
      | omega
      | exact back_old (by simp only [List.length_append]; omega) (fun r hr => by rw [List.getElem?_append_left (by omega), hgh r hr])
      | trace_state
theorem fnExactShardNew_gives (id : Int) (net : List Leg) (h : Hp) : Gives Try.prog 4 [.int .i64 id, .slice (net.map Leg.d) .no] h (.bool true) := by
  cases hb : shB id net with
  | true => exact fnExactShardNew_ok id net h hb
  | false => exact fnExactShardNew_bad id net h hb
end Go.Proofs.Ytcmpcpigchlhpaa
