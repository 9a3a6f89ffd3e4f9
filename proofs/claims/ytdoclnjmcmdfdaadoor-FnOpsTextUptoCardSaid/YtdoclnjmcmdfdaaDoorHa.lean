/- A drawn text of ops, bent by one byte: no share in it has thirteen figures. Plain law. -/
import Derived.Test.YtdoclnjmcmdfdaaDoorGz
import Derived.Test.YtdoclnjmcmdfdaaDoorGo

namespace Go.Proofs.YtdoclnjmcmdfdaaDoor
set_option linter.unusedSectionVars false
open Go.Av
variable [Av.Start]
set_option maxRecDepth 10000
set_option maxHeartbeats 1000000
set_option linter.unusedSimpArgs false
set_option linter.unusedVariables false
set_option linter.unusedSectionVars false

def dgs (s : List UInt8) : Nat := s.countP isDg
def cms (s : List UInt8) : Nat := s.countP (fun b => decide (b = 44))
theorem dgs_app (a b : List UInt8) : dgs (a ++ b) = dgs a + dgs b := List.countP_append
theorem cms_app (a b : List UInt8) : cms (a ++ b) = cms a + cms b := List.countP_append
theorem dgs_le (a : List UInt8) : dgs a ≤ a.length := List.countP_le_length
theorem dgs_no (b : UInt8) (s : List UInt8) (h : isDg b = false) : dgs (b :: s) = dgs s := by
  rw [dgs, List.countP_cons, h]
  rfl
theorem cms_no {s : List UInt8} (h : (44 : UInt8) ∉ s) : cms s = 0 := by
  rw [cms, List.countP_eq_zero]
  intro b hb he
  rw [decide_eq_true_eq] at he
  exact h (he ▸ hb)
theorem dec_len_le : ∀ (k u : Nat), u < 10 ^ (k + 1) → (Lib.decDigits u).length ≤ k + 1
  | 0, u, h => by rw [dec_small (by omega)]; exact Nat.le_refl _
  | k + 1, u, h => by
    by_cases hu : u < 10
    · rw [dec_small hu]; simp
    · rw [dec_big hu, List.length_append]
      have := dec_len_le k (u / 10) (by rw [Nat.pow_succ] at h; omega)
      simp only [List.length_cons, List.length_nil]
      omega
theorem dec_len_ge : ∀ (k u : Nat), 10 ^ k ≤ u → k + 1 ≤ (Lib.decDigits u).length
  | 0, u, _ => by
    by_cases hu : u < 10
    · rw [dec_small hu]; exact Nat.le_refl _
    · rw [dec_big hu, List.length_append]; simp
  | k + 1, u, h => by
    have hp : 0 < 10 ^ k := Nat.pow_pos (by omega)
    rw [Nat.pow_succ] at h
    have hu : ¬ u < 10 := by omega
    rw [dec_big hu, List.length_append]
    have := dec_len_ge k (u / 10) (by omega)
    simp only [List.length_cons, List.length_nil]
    omega
theorem dgs_dec (u : Nat) : dgs (Lib.decDigits u) = (Lib.decDigits u).length := by
  rw [dgs, List.countP_eq_length]
  exact List.all_eq_true.1 (dec_props u).1
theorem dgs_itoa_small {n : Int} (h0 : -9 ≤ n) (h1 : n ≤ 9) : dgs (Lib.itoa n) ≤ 1 := by
  rw [Lib.itoa]
  split
  · rw [dgs_no _ _ (by decide), dgs_dec]
    exact dec_len_le 0 _ (by omega)
  · rw [dgs_dec]
    exact dec_len_le 0 _ (by omega)
theorem dgs_itoa3 {n : Int} (h0 : 0 ≤ n) (h1 : n < 1000) : dgs (Lib.itoa n) ≤ 3 := by
  rw [Lib.itoa, if_neg (by omega), dgs_dec]
  exact dec_len_le 2 _ (by omega)
theorem dgs_itoa_pos (n : Int) : 1 ≤ dgs (Lib.itoa n) := by
  rw [Lib.itoa]
  split
  · rename_i h
    rw [dgs_no _ _ (by decide), dgs_dec]
    exact dec_len_ge 0 _ (by omega)
  · rw [dgs_dec]
    by_cases hz : n.toNat = 0
    · rw [hz, dec_small (by omega)]; exact Nat.le_refl _
    · exact dec_len_ge 0 _ (by omega)
theorem dgs_itoa13 {n : Int} (h0 : 1000000000000 ≤ n) : 13 ≤ dgs (Lib.itoa n) := by
  rw [Lib.itoa, if_neg (by omega), dgs_dec]
  exact dec_len_ge 12 _ (by omega)
theorem dgs_opT (x : Opn) : dgs (opT x) = dgs x.leg + dgs (Lib.itoa x.cls) + dgs (Lib.itoa x.seats) + dgs (Lib.itoa x.share) := by
  have h58 : isDg 58 = false := by decide
  rw [opT, dgs_app, dgs_no _ _ h58, dgs_app, dgs_no _ _ h58, dgs_app, dgs_no _ _ h58]
  omega
theorem dgs_join_le (c : Nat) : ∀ (ws : List (List UInt8)), (∀ w, w ∈ ws → dgs w ≤ c) → dgs (joinC 44 ws) ≤ c * ws.length
  | [], _ => Nat.zero_le _
  | [w], h => by
    have := h w (by simp)
    simpa [joinC] using this
  | w :: v :: ws, h => by
    have h1 := h w (by simp)
    have h2 := dgs_join_le c (v :: ws) (fun x hx => h x (List.mem_cons_of_mem _ hx))
    rw [joinC_cons 44 w (by simp), dgs_app, dgs_no _ _ (by decide)]
    simp only [List.length_cons, Nat.mul_add] at h2 ⊢
    omega
theorem dgs_join_ge (c : Nat) : ∀ (ws : List (List UInt8)), (∀ w, w ∈ ws → c ≤ dgs w) → c * ws.length ≤ dgs (joinC 44 ws)
  | [], _ => Nat.zero_le _
  | [w], h => by
    have := h w (by simp)
    simpa [joinC] using this
  | w :: v :: ws, h => by
    have h1 := h w (by simp)
    have h2 := dgs_join_ge c (v :: ws) (fun x hx => h x (List.mem_cons_of_mem _ hx))
    rw [joinC_cons 44 w (by simp), dgs_app, dgs_no _ _ (by decide)]
    simp only [List.length_cons, Nat.mul_add] at h2 ⊢
    omega
theorem dgs_join_ge1 (c e : Nat) : ∀ (ws : List (List UInt8)), (∀ w, w ∈ ws → c ≤ dgs w) → (∃ w, w ∈ ws ∧ c + e ≤ dgs w) → c * ws.length + e ≤ dgs (joinC 44 ws)
  | [], _, h => by obtain ⟨w, hw, _⟩ := h; cases hw
  | [w], h, ⟨x, hx, hw⟩ => by
    obtain rfl := List.mem_singleton.1 hx
    simpa [joinC] using hw
  | w :: v :: ws, h, ⟨x, hx, hw⟩ => by
    have h1 := h w (by simp)
    rw [joinC_cons 44 w (by simp), dgs_app, dgs_no _ _ (by decide)]
    rcases List.mem_cons.1 hx with rfl | hx
    · have h2 := dgs_join_ge c (v :: ws) (fun x hx => h x (List.mem_cons_of_mem _ hx))
      simp only [List.length_cons, Nat.mul_add] at h2 ⊢
      omega
    · have h2 := dgs_join_ge1 c e (v :: ws) (fun x hx => h x (List.mem_cons_of_mem _ hx)) ⟨x, hx, hw⟩
      simp only [List.length_cons, Nat.mul_add] at h2 ⊢
      omega
theorem cms_join : ∀ (ws : List (List UInt8)), ws ≠ [] → (∀ w, w ∈ ws → (44 : UInt8) ∉ w) → cms (joinC 44 ws) + 1 = ws.length
  | [], h, _ => absurd rfl h
  | [w], _, h => by
    have := cms_no (h w (by simp))
    simpa [joinC] using this
  | w :: v :: ws, _, h => by
    have h1 := cms_no (h w (by simp))
    have h2 := cms_join (v :: ws) (by simp) (fun x hx => h x (List.mem_cons_of_mem _ hx))
    rw [joinC_cons 44 w (by simp), cms_app, show cms (44 :: joinC 44 (v :: ws)) = cms (joinC 44 (v :: ws)) + 1 by rw [cms, List.countP_cons]; rfl, h1]
    simp only [List.length_cons] at h2 ⊢
    omega
theorem cms_opsT {xs : List Opn} (hb : opsB xs = true) : cms (opsT xs) + 1 = xs.length := by
  obtain ⟨h1, _, h2⟩ := ops_mem hb
  rw [opsT, cms_join _ (fun e => by rw [List.map_eq_nil_iff] at e; rw [e] at h1; cases h1) (fun w hw => by
    obtain ⟨x, hx, rfl⟩ := List.mem_map.1 hw
    exact opT_no (h2 x hx).1), List.length_map]
/-- a text with few figures has no share of thirteen -/
theorem bent_small {d xs : List Opn} {a m b : List UInt8} (hd : ∀ x, x ∈ d → dgs x.leg = 0 ∧ x.share < 1000) (hm : m.length ≤ 1) (hab : a ++ b = if opsB d = true then opsT d else []) (hx : opsB xs = true) (ht : opsT xs = a ++ m ++ b) : ∀ x, x ∈ xs → x.share < 1000000000000 := by
  intro x hxm
  rcases Int.lt_or_le x.share 1000000000000 with h | h
  · exact h
  exfalso
  have hge : 3 * (xs.map opT).length + 12 ≤ dgs (opsT xs) := by
    refine dgs_join_ge1 3 12 _ (fun w hw => ?_) ⟨opT x, List.mem_map_of_mem hxm, ?_⟩
    · obtain ⟨y, _, rfl⟩ := List.mem_map.1 hw
      have h1 := dgs_itoa_pos y.cls
      have h2 := dgs_itoa_pos y.seats
      have h3 := dgs_itoa_pos y.share
      rw [dgs_opT]
      omega
    · have h1 := dgs_itoa_pos x.cls
      have h2 := dgs_itoa_pos x.seats
      have h3 := dgs_itoa13 h
      rw [dgs_opT]
      omega
  have hc := cms_opsT hx
  have hdm := dgs_le m
  rw [List.length_map] at hge
  have e1 : dgs (opsT xs) = dgs (a ++ b) + dgs m := by rw [ht, dgs_app, dgs_app, dgs_app]; omega
  have e2 : cms (a ++ b) ≤ cms (opsT xs) := by rw [ht, cms_app, cms_app, cms_app]; omega
  rw [hab] at e1 e2
  by_cases hb : opsB d = true
  · rw [if_pos hb] at e1 e2
    have hcd := cms_opsT hb
    obtain ⟨_, hl, hmm⟩ := ops_mem hb
    have hle : dgs (opsT d) ≤ 5 * (d.map opT).length := by
      refine dgs_join_le 5 _ (fun w hw => ?_)
      obtain ⟨y, hy, rfl⟩ := List.mem_map.1 hw
      obtain ⟨_, q1, q2, q3⟩ := hmm y hy
      have h1 := dgs_itoa_small (n := y.cls) (by omega) (by omega)
      have h2 := dgs_itoa_small (n := y.seats) (by omega) (by omega)
      have h3 := dgs_itoa3 (n := y.share) (by omega) (hd y hy).2
      have h4 := (hd y hy).1
      rw [dgs_opT]
      omega
    rw [List.length_map] at hle
    omega
  · rw [if_neg hb] at e1
    have : dgs [] = 0 := rfl
    omega
end Go.Proofs.YtdoclnjmcmdfdaaDoor

/- The reference's draw of ops. -/
namespace Go.Proofs.YtdoclnjmcmdfdaaDoor
set_option linter.unusedSectionVars false
open Go.Av
variable [Av.Start] [TabPow] [TabErr] [TabMax]
set_option maxRecDepth 10000
set_option maxHeartbeats 1000000
set_option linter.unusedSimpArgs false
set_option linter.unusedVariables false
attribute [local irreducible] finS

def opNm : List (List UInt8) := [[108, 97], [108, 98], [108, 99], [108, 100]]
def opD (bs : List Int) (q : Int) : Opn := ⟨opNm.getD (pickV bs q 4).toNat [], pickV bs (q + 1) 3, ([1, 2, -1, 0, 5] : List Int).getD ((pickV bs (q + 1 + 1) 12 * 5).tdiv 12).toNat 0, pickV bs (q + 1 + 1 + 1) 500⟩
/-- n ops drawn from place q on -/
def opsD (bs : List Int) : Nat → Int → List Opn
  | 0, _ => []
  | n + 1, q => opsD bs n q ++ [opD bs (q + 4 * n)]
omit [Av.Start] [TabPow] [TabErr] [TabMax] in
theorem opsD_len (bs : List Int) (q : Int) : ∀ n, (opsD bs n q).length = n
  | 0 => rfl
  | n + 1 => by rw [opsD, List.length_append, opsD_len bs q n]; rfl
def opsW (bs : List Int) : List Opn :=
  let xs := opsD bs (pickV bs 0 4).toNat 1
  match xs with
  | [] => []
  | x :: r => if pickV bs (1 + 4 * xs.length) 10 = 0 then { x with share := -1 } :: r else x :: r
omit [Av.Start] [TabPow] [TabErr] [TabMax] in
theorem ops_len : ∀ xs : List Opn, (xs.flatMap Opn.cs).length = xs.length * 4
  | [] => rfl
  | x :: xs => by rw [List.flatMap_cons, List.length_append, ops_len xs, List.length_cons]; simp only [Opn.cs, List.length_cons, List.length_nil]; omega
theorem ops_ren (xs : List Opn) (n k : Nat) : RenOb n k (.row (xs.flatMap Opn.cs)) (.row (xs.flatMap Opn.cs)) := .row _ _ rfl (fun j h1 h2 => by
  have := List.getElem_mem h1
  obtain ⟨l, _, hd⟩ := List.mem_flatMap.1 this
  generalize (xs.flatMap Opn.cs)[j] = d at hd
  simp only [Opn.cs, List.mem_cons, List.not_mem_nil, or_false] at hd
  rcases hd with e | e | e | e <;> subst e
  · exact .str _
  · exact .int _ _
  · exact .int _ _
  · exact .int _ _)
theorem ops_cl0 (xs : List Opn) (n : Nat) : ∀ d, d ∈ xs.flatMap Opn.cs → Cl n d := fun d hd => by
  obtain ⟨l, _, hd⟩ := List.mem_flatMap.1 hd
  exact Opn.cl n l d hd
theorem ops_part (h : Hp) (a : Ob) (xs : List Opn) (n : Nat) (hn : n = xs.length) : rowPart (h ++ [a, .row (xs.flatMap Opn.cs)]) (h.length + 1) 4 0 n = xs.flatMap Opn.cs := by
  subst hn
  have e : ob (h ++ [a, .row (xs.flatMap Opn.cs)]) (h.length + 1) = .row (xs.flatMap Opn.cs) := by
    rw [ob, List.getD_eq_getElem?_getD, List.getElem?_append_right (by omega), show h.length + 1 - h.length = 1 by omega]
    rfl
  rw [rowPart, e, Nat.zero_mul, List.drop_zero, List.take_of_length_le (by rw [rowOf, ops_len]; exact Nat.le_refl _)]
  rfl
theorem ops_chunk (xs : List Opn) (n : Nat) (hn : n = xs.length) : chunk true 4 n (xs.flatMap Opn.cs) = xs.map Opn.d := chunk_map (g := Opn.d) (ag := true) (m := 4) (by omega) (fun _ => rfl) (fun _ => rfl) xs _ hn
theorem drawOpsWrite_gives (bs : List Int) (h : Hp) (hb : ∀ x, x ∈ bs → 0 ≤ x ∧ x ≤ 255) : Gives Tryd.prog 19 [.slice (bs.map (.int .u8)) .no] h (.slice ((opsW (bs.take 2000)).map Opn.d) .no) := by
  have hR := fun p h0 h1 => rd_take hb p h0 h1
  have hO := l1Open_gives bs
  generalize bs.take 2000 = cs at hR hO
  have v0 := pickV_range (p := 0) (hR _ (by omega) (by omega)) 4 (by omega)
  refine meets_ofC [32, 1000006, 2000038] mixed Tryd.func19 rfl (by kernel_rfl) (by kernel_rfl) (by rw [Tryd.ntmps19]; simp only [List.length_cons, List.length_nil]; omega) (fun hf hcl => ?_)
  rw [Tryd.results19]
  clear hf
  try simp -implicitDefEqProofs only [lenMax, List.length_set, push_cast, Nat.reduceEqDiff, Nat.reduceBEq, Nat.reduceBNe, Nat.reduceAdd, Nat.reduceMul, Nat.reduceLT, Nat.reduceLeDiff, Nat.reduceSub, reduceCtorEq, Int.reduceToNat, ↓reduceIte]
  repeat'
    (first
     | (refine uYes ?_; first | exact List.mem_cons_self | (simp only [List.mem_cons, List.not_mem_nil, or_false, true_or, or_true]; done))
     | (refine uNo (by kernel_rfl))
     | (refine flatMk ?_; kernel_rfl)
     | (refine And.intro ?_ ?_)
     | (intro hx)
     | ((first
         | (refine callGF ?_)
         | (refine callQGF ?_)
         | (refine skipG ?_)
         | (refine callM (hO _) ?_)
         | (refine callM (dst := some 10) (pick_gives cs 0 _ h.length _ (by simp -implicitDefEqProofs only [push_cast, Nat.reduceEqDiff, Nat.reduceBEq, Nat.reduceBNe, Nat.reduceAdd, Nat.reduceMul, Nat.reduceLT, Nat.reduceLeDiff, Nat.reduceSub, reduceCtorEq, Int.reduceToNat, ↓reduceIte]) (by simp) (hR _ (by omega) (by omega))) ?_)); simp -implicitDefEqProofs only [lenMax, List.length_set, push_cast, Nat.reduceEqDiff, Nat.reduceBEq, Nat.reduceBNe, Nat.reduceAdd, Nat.reduceMul, Nat.reduceLT, Nat.reduceLeDiff, Nat.reduceSub, reduceCtorEq, Int.reduceToNat, ↓reduceIte]))
  have hN : ∃ N : Nat, pickV cs 0 4 = N ∧ N < 4 := ⟨(pickV cs 0 4).toNat, by omega, by omega⟩
  obtain ⟨N, hN, hN4⟩ := hN
  have hW : opsW cs = (match opsD cs N 1 with | [] => [] | x :: r => if pickV cs (1 + 4 * N) 10 = 0 then { x with share := -1 } :: r else x :: r) := by
    rw [opsW, hN, Int.toNat_natCast, opsD_len]
  refine ev_loopV [(4, true, 4)] (fun k : Nat => [(3, .ptr h.length 0), (4, .vec (h.length + 1) true 4 0 k k), (5, .int .i64 ((N : Int) - k))])
    (fun k => [.row (rdC cs (1 + 4 * k)), .row ((opsD cs k 1).flatMap Opn.cs)]) (fun k => k ≤ N) (fun k => N - k) 0 (Nat.zero_le _) ?_ ?_
  · refine ⟨[.row (rdC cs (0 + 1)), .row []], ?_, ?_⟩
    · simp -implicitDefEqProofs only [Int.natCast_add, Int.cast_ofNat_Int, List.length_nil, Nat.le_refl, WeakTo, tokSts, tokOks, List.append_cancel_left_eq, exists_eq_left', exists_eq_left, List.append_cancel_left_eq, List.take_length, ObCl, and_true, true_and, push_cast, Nat.reduceEqDiff, Nat.reduceBEq, Nat.reduceBNe, Nat.reduceAdd, Nat.reduceMul, Nat.reduceLT, Nat.reduceLeDiff, Nat.reduceSub, reduceCtorEq, Int.reduceToNat, ↓reduceIte]
    · simp -implicitDefEqProofs only [hN, opsD, Int.natCast_add, Int.cast_ofNat_Int, List.length_nil, Nat.le_refl, WeakTo, tokSts, tokOks, List.append_cancel_left_eq, exists_eq_left', exists_eq_left, List.append_cancel_left_eq, List.take_length, ObCl, and_true, true_and, push_cast, Nat.reduceEqDiff, Nat.reduceBEq, Nat.reduceBNe, Nat.reduceAdd, Nat.reduceMul, Nat.reduceLT, Nat.reduceLeDiff, Nat.reduceSub, reduceCtorEq, Int.reduceToNat, ↓reduceIte]
      exact ⟨rfl, ⟨rdC_cl _ _ _, fun d hd => nomatch hd⟩, by omega, by omega⟩
  · intro k hk
    have hl := opsD_len cs 1 k
    have v1 := pickV_range (p := 1 + 4 * k) (hR _ (by omega) (by omega)) 4 (by omega)
    have v2 := pickV_range (p := 1 + 4 * k + 1) (hR _ (by omega) (by omega)) 3 (by omega)
    have v3 := pickV_range (p := 1 + 4 * k + 1 + 1) (hR _ (by omega) (by omega)) 12 (by omega)
    have v4 := pickV_range (p := 1 + 4 * k + 1 + 1 + 1) (hR _ (by omega) (by omega)) 500 (by omega)
    by_cases hlt : k < N
    · have hc : decide ((0 : Int) < (N : Int) - k) = true := decide_eq_true (by omega)
      have w1 : IntKind.i64.wrap ((N : Int) - k - 1) = (N : Int) - k - 1 := wrap_id (by omega) (by omega)
      have w2 : IntKind.i64.wrap (pickV cs (1 + 4 * k + 1 + 1) 12 * 5) = pickV cs (1 + 4 * k + 1 + 1) 12 * 5 := wrap_id (by omega) (by omega)
      have t1 : 0 ≤ (pickV cs (1 + 4 * k + 1 + 1) 12 * 5).tdiv 12 ∧ (pickV cs (1 + 4 * k + 1 + 1) 12 * 5).tdiv 12 < 5 := by rw [Int.tdiv_eq_ediv_of_nonneg (by omega)]; omega
      have w3 : IntKind.i64.wrap ((pickV cs (1 + 4 * k + 1 + 1) 12 * 5).tdiv 12) = (pickV cs (1 + 4 * k + 1 + 1) 12 * 5).tdiv 12 := wrap_id (by omega) (by omega)
      have hge : ∀ n : Nat, [D.int .i64 1, D.int .i64 2, D.int .i64 (-1), D.int .i64 0, D.int .i64 5].getD n (D.int .i64 0) = D.int .i64 (([1, 2, -1, 0, 5] : List Int).getD n 0) := fun n => getD_map (D.int .i64) 0 [1, 2, -1, 0, 5] n
      have hfl : ((opsD cs k 1).flatMap Opn.cs).length = k * 4 := by rw [ops_len, hl]
      try simp -implicitDefEqProofs only [hc, w1, w2, w3, hge, hl, hfl, lenMax, List.length_set, push_cast, Nat.reduceEqDiff, Nat.reduceBEq, Nat.reduceBNe, Nat.reduceAdd, Nat.reduceMul, Nat.reduceLT, Nat.reduceLeDiff, Nat.reduceSub, reduceCtorEq, Int.reduceToNat, ↓reduceIte]
      repeat'
        (first
         | (refine uYes ?_; first | exact List.mem_cons_self | (simp only [List.mem_cons, List.not_mem_nil, or_false, true_or, or_true]; done))
         | (refine uNo (by kernel_rfl))
         | (refine flatMk ?_; kernel_rfl)
         | (refine And.intro ?_ ?_)
         | (intro hx)
         | ((first
             | (refine callGF ?_)
             | (refine callQGF ?_)
             | (refine skipG ?_)
             | (refine inX_mkG [h.length, h.length + 1] [] (by kernel_rfl) (by simp) ?_)
             | (refine callXR (dst := some 18) (r := h.length) (by simp) (by simp) (fun h' hr' hl' => of_gives cs (1 + 4 * k) opNm _ h.length h' (hr'.trans (by simp -implicitDefEqProofs only [push_cast, Nat.reduceEqDiff, Nat.reduceBEq, Nat.reduceBNe, Nat.reduceAdd, Nat.reduceMul, Nat.reduceLT, Nat.reduceLeDiff, Nat.reduceSub, reduceCtorEq, Int.reduceToNat, ↓reduceIte])) hl' (hR _ (by omega) (by omega)) (by decide)) ?_)
             | (refine callXR (dst := some 20) (r := h.length) (by simp) (by simp) (fun h' hr' hl' => pick_gives cs (1 + 4 * k + 1) _ h.length h' (hr'.trans (by simp -implicitDefEqProofs only [push_cast, Nat.reduceEqDiff, Nat.reduceBEq, Nat.reduceBNe, Nat.reduceAdd, Nat.reduceMul, Nat.reduceLT, Nat.reduceLeDiff, Nat.reduceSub, reduceCtorEq, Int.reduceToNat, ↓reduceIte])) hl' (hR _ (by omega) (by omega))) ?_)
             | (refine callXR (dst := some 23) (r := h.length) (by simp) (by simp) (fun h' hr' hl' => pick_gives cs (1 + 4 * k + 1 + 1) _ h.length h' (hr'.trans (by simp -implicitDefEqProofs only [push_cast, Nat.reduceEqDiff, Nat.reduceBEq, Nat.reduceBNe, Nat.reduceAdd, Nat.reduceMul, Nat.reduceLT, Nat.reduceLeDiff, Nat.reduceSub, reduceCtorEq, Int.reduceToNat, ↓reduceIte])) hl' (hR _ (by omega) (by omega))) ?_)
             | (refine callXR (dst := some 29) (r := h.length) (by simp) (by simp) (fun h' hr' hl' => pick_gives cs (1 + 4 * k + 1 + 1 + 1) _ h.length h' (hr'.trans (by simp -implicitDefEqProofs only [push_cast, Nat.reduceEqDiff, Nat.reduceBEq, Nat.reduceBNe, Nat.reduceAdd, Nat.reduceMul, Nat.reduceLT, Nat.reduceLeDiff, Nat.reduceSub, reduceCtorEq, Int.reduceToNat, ↓reduceIte])) hl' (hR _ (by omega) (by omega))) ?_)
             | (refine callS (in_gives _ _ _ _) ?_)
             | (refine callQ (in_gives _ _ _ _) ?_)
             | (refine callG (fun hc => (in_gives _ _ _ _)) ?_)
             | (refine callQG (fun hc => (in_gives _ _ _ _)) ?_)); simp -implicitDefEqProofs only [hc, w1, w2, w3, hge, hl, hfl, lenMax, List.length_set, push_cast, Nat.reduceEqDiff, Nat.reduceBEq, Nat.reduceBNe, Nat.reduceAdd, Nat.reduceMul, Nat.reduceLT, Nat.reduceLeDiff, Nat.reduceSub, reduceCtorEq, Int.reduceToNat, ↓reduceIte]))
      all_goals first
        | omega
        | trace_state
      refine round_mkC (k + 1) (by omega) (by omega) [.row (rdC cs (1 + 4 * (k + 1 : Nat)))] [.dead] [.row ((opsD cs (k + 1) 1).flatMap Opn.cs)] [.row ((opsD cs (k + 1) 1).flatMap Opn.cs)] ?_ rfl (by simp) hcl (fun x hx => by rw [List.mem_singleton.1 hx]; exact rdC_cl _ _ _) rfl (renOb_one (ops_ren _ _ _)) ?_
      · have e1 : 1 + 4 * ((k + 1 : Nat) : Int) = 1 + 4 * k + 1 + 1 + 1 + 1 := by omega
        have e2 : ((opNm.length : Nat) : Int) = 4 := rfl
        rw [e1]
        simp -implicitDefEqProofs only [e2, opsD, opD, List.flatMap_append, List.flatMap_cons, List.flatMap_nil, Opn.cs, push_cast, Nat.reduceEqDiff, Nat.reduceBEq, Nat.reduceBNe, Nat.reduceAdd, Nat.reduceMul, Nat.reduceLT, Nat.reduceLeDiff, Nat.reduceSub, reduceCtorEq, Int.reduceToNat, ↓reduceIte]
      · simp -implicitDefEqProofs only [w1, Int.natCast_add, Int.cast_ofNat_Int, List.length_nil, Nat.le_refl, WeakTo, tokSts, tokOks, List.append_cancel_left_eq, exists_eq_left', exists_eq_left, List.append_cancel_left_eq, List.take_length, ObCl, and_true, true_and, push_cast, Nat.reduceEqDiff, Nat.reduceBEq, Nat.reduceBNe, Nat.reduceAdd, Nat.reduceMul, Nat.reduceLT, Nat.reduceLeDiff, Nat.reduceSub, reduceCtorEq, Int.reduceToNat, ↓reduceIte]
        exact ⟨rw_ptr (by omega), rw_vec (by omega) (by omega) (by omega) (by omega), by omega⟩
    · obtain rfl : k = N := by omega
      have hc : decide ((0 : Int) < (k : Int) - k) = false := decide_eq_false (by omega)
      have v5 := pickV_range (p := 1 + 4 * k) (hR _ (by omega) (by omega)) 10 (by omega)
      cases hk0 : opsD cs k 1 with
      | nil =>
        rw [hk0] at hl hW
        obtain rfl : k = 0 := hl.symm
        rw [hW]
        try simp -implicitDefEqProofs only [hc, lenMax, List.length_set, push_cast, Nat.reduceEqDiff, Nat.reduceBEq, Nat.reduceBNe, Nat.reduceAdd, Nat.reduceMul, Nat.reduceLT, Nat.reduceLeDiff, Nat.reduceSub, reduceCtorEq, Int.reduceToNat, ↓reduceIte]
        repeat'
          (first
           | (refine uYes ?_; first | exact List.mem_cons_self | (simp only [List.mem_cons, List.not_mem_nil, or_false, true_or, or_true]; done))
           | (refine uNo (by kernel_rfl))
           | (refine flatMk ?_; kernel_rfl)
           | (refine And.intro ?_ ?_)
           | (intro hx)
           | ((first
               | (refine callGF ?_)
               | (refine callQGF ?_)
               | (refine skipG ?_)
               | (refine callS (in_gives _ _ _ _) ?_)
               | (refine callQ (in_gives _ _ _ _) ?_)
               | (refine callG (fun hc => (in_gives _ _ _ _)) ?_)
               | (refine callQG (fun hc => (in_gives _ _ _ _)) ?_)); simp -implicitDefEqProofs only [hc, lenMax, List.length_set, push_cast, Nat.reduceEqDiff, Nat.reduceBEq, Nat.reduceBNe, Nat.reduceAdd, Nat.reduceMul, Nat.reduceLT, Nat.reduceLeDiff, Nat.reduceSub, reduceCtorEq, Int.reduceToNat, ↓reduceIte]))
        all_goals first
          | omega
          | rfl
          | exact ops_cl0 [] _ _ (Eq.mp (congrArg (fun l => _ ∈ l) (ops_part h _ [] 0 rfl)) hx)
          | trace_state
      | cons x r =>
        rw [hk0] at hl hW
        simp only at hW
        have hkp : decide ((0 : Int) < (k : Int)) = true := decide_eq_true (by simp only [List.length_cons] at hl; omega)
        have hk1 : 1 ≤ k := by simp only [List.length_cons] at hl; omega
        have hl1 : k = (x :: r).length := hl.symm
        have hl2 : k = (({ x with share := -1 } : Opn) :: r).length := by simpa using hl.symm
        have hlen := ops_len (x :: r)
        rw [hl] at hlen
        by_cases hz : pickV cs (1 + 4 * k) 10 = 0
        · rw [if_pos hz] at hW
          rw [hW]
          try simp -implicitDefEqProofs only [hc, hkp, hz, hl, hlen, lenMax, List.length_set, push_cast, Nat.reduceEqDiff, Nat.reduceBEq, Nat.reduceBNe, Nat.reduceAdd, Nat.reduceMul, Nat.reduceLT, Nat.reduceLeDiff, Nat.reduceSub, reduceCtorEq, Int.reduceToNat, ↓reduceIte]
          repeat'
            (first
             | (refine uYes ?_; first | exact List.mem_cons_self | (simp only [List.mem_cons, List.not_mem_nil, or_false, true_or, or_true]; done))
             | (refine uNo (by kernel_rfl))
             | (refine flatMk ?_; kernel_rfl)
             | (refine And.intro ?_ ?_)
             | (intro hx)
             | ((first
                 | (refine callGF ?_)
                 | (refine callQGF ?_)
                 | (refine skipG ?_)
                 | (refine callM (dst := some 38) (pick_gives cs (1 + 4 * k) _ h.length _ (by simp -implicitDefEqProofs only [push_cast, Nat.reduceEqDiff, Nat.reduceBEq, Nat.reduceBNe, Nat.reduceAdd, Nat.reduceMul, Nat.reduceLT, Nat.reduceLeDiff, Nat.reduceSub, reduceCtorEq, Int.reduceToNat, ↓reduceIte]) (by simp) (hR _ (by omega) (by omega))) ?_)
                 | (refine callS (in_gives _ _ _ _) ?_)
                 | (refine callQ (in_gives _ _ _ _) ?_)
                 | (refine callG (fun hc => (in_gives _ _ _ _)) ?_)
                 | (refine callQG (fun hc => (in_gives _ _ _ _)) ?_)); simp -implicitDefEqProofs only [hc, hkp, hz, hl, hlen, lenMax, List.length_set, push_cast, Nat.reduceEqDiff, Nat.reduceBEq, Nat.reduceBNe, Nat.reduceAdd, Nat.reduceMul, Nat.reduceLT, Nat.reduceLeDiff, Nat.reduceSub, reduceCtorEq, Int.reduceToNat, ↓reduceIte]))
          all_goals first
            | omega
            | exact ops_cl0 (({ x with share := -1 } : Opn) :: r) _ _ (Eq.mp (congrArg (fun l => _ ∈ l) (ops_part h _ (({ x with share := -1 } : Opn) :: r) k hl2)) hx)
            | exact (congrArg (chunk true 4 k) (ops_part h _ (({ x with share := -1 } : Opn) :: r) k hl2)).trans (ops_chunk _ k hl2)
            | trace_state
        · rw [if_neg hz] at hW
          rw [hW]
          have hz' : decide (pickV cs (1 + 4 * k) 10 = 0) = false := decide_eq_false hz
          try simp -implicitDefEqProofs only [hc, hkp, hz', hl, hlen, lenMax, List.length_set, push_cast, Nat.reduceEqDiff, Nat.reduceBEq, Nat.reduceBNe, Nat.reduceAdd, Nat.reduceMul, Nat.reduceLT, Nat.reduceLeDiff, Nat.reduceSub, reduceCtorEq, Int.reduceToNat, ↓reduceIte]
          repeat'
            (first
             | (refine uYes ?_; first | exact List.mem_cons_self | (simp only [List.mem_cons, List.not_mem_nil, or_false, true_or, or_true]; done))
             | (refine uNo (by kernel_rfl))
             | (refine flatMk ?_; kernel_rfl)
             | (refine And.intro ?_ ?_)
             | (intro hx)
             | ((first
                 | (refine callGF ?_)
                 | (refine callQGF ?_)
                 | (refine skipG ?_)
                 | (refine callM (dst := some 38) (pick_gives cs (1 + 4 * k) _ h.length _ (by simp -implicitDefEqProofs only [push_cast, Nat.reduceEqDiff, Nat.reduceBEq, Nat.reduceBNe, Nat.reduceAdd, Nat.reduceMul, Nat.reduceLT, Nat.reduceLeDiff, Nat.reduceSub, reduceCtorEq, Int.reduceToNat, ↓reduceIte]) (by simp) (hR _ (by omega) (by omega))) ?_)
                 | (refine callS (in_gives _ _ _ _) ?_)
                 | (refine callQ (in_gives _ _ _ _) ?_)
                 | (refine callG (fun hc => (in_gives _ _ _ _)) ?_)
                 | (refine callQG (fun hc => (in_gives _ _ _ _)) ?_)); simp -implicitDefEqProofs only [hc, hkp, hz', hl, hlen, lenMax, List.length_set, push_cast, Nat.reduceEqDiff, Nat.reduceBEq, Nat.reduceBNe, Nat.reduceAdd, Nat.reduceMul, Nat.reduceLT, Nat.reduceLeDiff, Nat.reduceSub, reduceCtorEq, Int.reduceToNat, ↓reduceIte]))
          all_goals first
            | omega
            | exact ops_cl0 (x :: r) _ _ (Eq.mp (congrArg (fun l => _ ∈ l) (ops_part h _ (x :: r) k hl1)) hx)
            | exact (congrArg (chunk true 4 k) (ops_part h _ (x :: r) k hl1)).trans (ops_chunk _ k hl1)
            | trace_state
end Go.Proofs.YtdoclnjmcmdfdaaDoor

/- FnOpsText holds of all drawn ops and texts. -/
namespace Go.Proofs.YtdoclnjmcmdfdaaDoor
set_option linter.unusedSectionVars false
open Go.Av
variable [Av.Start] [TabPow] [TabErr] [TabMax]
set_option maxRecDepth 10000
set_option maxHeartbeats 1000000
set_option linter.unusedSimpArgs false
set_option linter.unusedVariables false
attribute [local irreducible] finS

theorem opNm_dgs (k : Nat) : dgs (opNm.getD k []) = 0 := by
  match k with
  | 0 => decide
  | 1 => decide
  | 2 => decide
  | 3 => decide
  | k + 4 => rfl
theorem opsD_mem {bs : List Int} {q : Int} {x : Opn} : ∀ {n : Nat}, x ∈ opsD bs n q → ∃ j : Nat, j < n ∧ x = opD bs (q + 4 * j)
  | 0, h => by cases h
  | n + 1, h => by
    rw [opsD, List.mem_append] at h
    rcases h with h | h
    · obtain ⟨j, hj, e⟩ := opsD_mem h
      exact ⟨j, by omega, e⟩
    · exact ⟨n, by omega, List.mem_singleton.1 h⟩
theorem opsW_mem {cs : List Int} (hR : ∀ p, 0 ≤ p → p ≤ 1000000000 → Rd cs p) : (opsW cs).length ≤ 4 ∧ ∀ x, x ∈ opsW cs → dgs x.leg = 0 ∧ x.share < 1000 := by
  have v0 := pickV_range (p := 0) (hR _ (by omega) (by omega)) 4 (by omega)
  have key : ∀ x, x ∈ opsD cs (pickV cs 0 4).toNat 1 → dgs x.leg = 0 ∧ x.share < 1000 := fun x hx => by
    obtain ⟨j, hj, rfl⟩ := opsD_mem hx
    have v := pickV_range (p := 1 + 4 * (j : Int) + 1 + 1 + 1) (hR _ (by omega) (by omega)) 500 (by omega)
    rw [opD]
    exact ⟨opNm_dgs _, by simp only; omega⟩
  have hl := opsD_len cs 1 (pickV cs 0 4).toNat
  rw [opsW]
  generalize opsD cs (pickV cs 0 4).toNat 1 = xs at key hl
  cases xs with
  | nil => exact ⟨by simp, fun x hx => by cases hx⟩
  | cons y r =>
    simp only
    split
    · refine ⟨by simp only [List.length_cons] at hl ⊢; omega, fun x hx => ?_⟩
      rcases List.mem_cons.1 hx with rfl | hx
      · exact ⟨(key y List.mem_cons_self).1, by simp only; omega⟩
      · exact key x (List.mem_cons_of_mem _ hx)
    · exact ⟨by omega, key⟩
def opsTx (xs : List Opn) : List UInt8 := if opsB xs = true then opsT xs else []
theorem opsTx_len (xs : List Opn) : (opsTx xs).length ≤ 1000 := by
  rw [opsTx]
  split
  · rename_i hb
    have h1 := ops_small hb
    have h2 := opsT_len xs h1.2
    omega
  · simp
def bendO : List (List UInt8) := [[58], [44], [48], [45], [120]]
theorem bendO_len (k : Nat) : (bendO.getD k []).length ≤ 1 := by
  match k with
  | 0 => decide
  | 1 => decide
  | 2 => decide
  | 3 => decide
  | 4 => decide
  | k + 5 => exact Nat.zero_le _
def opsRD (bs : List Int) : List UInt8 := (bendV (bs.take 2000) 0 (opsTx (opsW (bs.take 2000))) bendO 3).1
theorem bendV_parts (bs : List Int) (p : Int) (s : List UInt8) (n : Int) : ∃ a m b : List UInt8, (bendV bs p s bendO n).1 = a ++ m ++ b ∧ m.length ≤ 1 ∧ a ++ b = s := by
  rw [bendV]
  split
  · exact ⟨s, [], [], by simp, by simp, by simp⟩
  · exact ⟨_, _, _, rfl, bendO_len _, List.take_append_drop _ _⟩
theorem opsRD_eq (bs : List Int) (hb : ∀ x, x ∈ bs → 0 ≤ x ∧ x ≤ 255) : opsVI (opsRD bs) = opsVS (opsRD bs) ∧ (opsRD bs).length ≤ 2000 := by
  have hR := fun p h0 h1 => rd_take hb p h0 h1
  obtain ⟨a, m, b, e1, e2, e3⟩ := bendV_parts (bs.take 2000) 0 (opsTx (opsW (bs.take 2000))) 3
  have hl := opsTx_len (opsW (bs.take 2000))
  refine ⟨opsV_eq _ fun x hx => ?_, ?_⟩
  · rcases opsVI_or (opsRD bs) with ⟨xs, q1, q2, q3⟩ | q3
    · rw [q3] at hx
      exact bent_small (opsW_mem hR).2 e2 e3 q1 (q2.trans e1) x hx
    · rw [q3] at hx
      cases hx
  · rw [← e3, List.length_append] at hl
    rw [opsRD, e1, List.length_append, List.length_append]
    omega
theorem drawOpsRead_gives (bs : List Int) (h : Hp) (hb : ∀ x, x ∈ bs → 0 ≤ x ∧ x ≤ 255) : Gives Tryd.prog 14 [.slice (bs.map (.int .u8)) .no] h (.str (opsRD bs)) := by
  have hR := fun p h0 h1 => rd_take hb p h0 h1
  have hO := l1Open_gives bs
  have hD := fun g => drawOpsWrite_gives bs g hb
  rw [opsRD]
  generalize bs.take 2000 = cs at hR hO hD
  generalize opsW cs = xs at hD
  have hW := specOpsWrite_gives xs
  have hlen := opsTx_len xs
  rw [← opsTx] at hW
  generalize opsTx xs = tx at hW hlen
  have hB := fun (r : Nat) g q1 q2 => l14Bend_gives cs 0 tx bendO .full 3 r g q1 q2 (hR _ (by omega) (by omega)) (by omega) (by omega) (by omega) (by simp [bendO])
  generalize bendV cs 0 tx bendO 3 = B at hB
  refine meets_of [] mixed Tryd.func14 rfl (by kernel_rfl) (by kernel_rfl) (by rw [Tryd.ntmps14]; simp only [List.length_cons, List.length_nil]; omega) (fun hf => ?_)
  rw [Tryd.results14]
  clear hf
  try simp -implicitDefEqProofs only [lenMax, push_cast, Nat.reduceEqDiff, Nat.reduceBEq, Nat.reduceBNe, Nat.reduceAdd, Nat.reduceMul, Nat.reduceLT, Nat.reduceLeDiff, Nat.reduceSub, reduceCtorEq, Int.reduceToNat, ↓reduceIte]
  repeat'
    (first
     | (refine uYes ?_; first | exact List.mem_cons_self | (simp only [List.mem_cons, List.not_mem_nil, or_false, true_or, or_true]; done))
     | (refine uNo (by kernel_rfl))
     | (refine flatMk ?_; kernel_rfl)
     | (refine And.intro ?_ ?_)
     | (intro hx)
     | ((first
         | (refine callGF ?_)
         | (refine callQGF ?_)
         | (refine skipG ?_)
         | (refine callM (dst := some 5) (hO _) ?_)
         | (refine callS (hD _) ?_)
         | (refine callQ (hD _) ?_)
         | (refine callG (fun hc => (hD _)) ?_)
         | (refine callQG (fun hc => (hD _)) ?_)
         | (refine callS (hW _) ?_)
         | (refine callQ (hW _) ?_)
         | (refine callG (fun hc => (hW _)) ?_)
         | (refine callQG (fun hc => (hW _)) ?_)
         | (refine callM (dst := some 11) (hB _ _ (ob_app h _ 0) (by simp)) ?_)); simp -implicitDefEqProofs only [lenMax, push_cast, Nat.reduceEqDiff, Nat.reduceBEq, Nat.reduceBNe, Nat.reduceAdd, Nat.reduceMul, Nat.reduceLT, Nat.reduceLeDiff, Nat.reduceSub, reduceCtorEq, Int.reduceToNat, ↓reduceIte]))
  all_goals first
    | omega
    | trace_state
theorem fnOpsText_gives (bs ms : List Int) (h : Hp) (hb : ∀ x, x ∈ bs → 0 ≤ x ∧ x ≤ 255) (hm : ∀ x, x ∈ ms → 0 ≤ x ∧ x ≤ 255) : Gives Tryd.prog 5 [.slice (bs.map (.int .u8)) .no, .slice (ms.map (.int .u8)) .no] h (.bool true) := by
  have hD := fun g => drawOpsRead_gives bs g hb
  obtain ⟨hq, hl⟩ := opsRD_eq bs hb
  generalize opsRD bs = tx at hD hl hq
  have hI := fun g => implOpsRead_gives tx g (by omega)
  have hS := fun g => specOpsRead_gives tx g (by omega)
  rw [← hq] at hS
  have hE := fun g => drawOpsWrite_gives ms g hm
  generalize opsW (ms.take 2000) = d at hE
  have hWd := implOpsWrite_gives d
  have hWs := specOpsWrite_gives d
  have hlen2 := opsTx_len d
  rw [opsTx] at hlen2
  have hR0 := fun g => implOpsRead_gives (if opsB d = true then opsT d else []) g (by omega)
  have hQd := wsOps_self d
  have key : ∀ (x : List Opn × Bool), (x.2 = true → (if opsB x.1 = true then opsT x.1 else []) = tx) → opsVI tx = x → Gives Tryd.prog 5 [.slice (bs.map (.int .u8)) .no, .slice (ms.map (.int .u8)) .no] h (.bool true) := by
    intro x hx0 hv
    obtain ⟨xs, c⟩ := x
    rw [hv] at hI hS
    simp only at hx0 hI hS
    have hWx := implOpsWrite_gives xs
    have hQx := wsOps_self xs
    generalize (if opsB xs = true then opsT xs else []) = tq at hx0 hWx
    have hd : c = true → decide (tq = tx) = true := fun e => decide_eq_true (hx0 e)
    cases hb' : opsB d with
    | true =>
      rw [hb', if_pos rfl] at hWd hR0 hWs
      rw [opsVI_write hb'] at hR0
      have hne : decide (opsT d = []) = false := decide_eq_false (opsT_ne hb')
      generalize opsT d = td at hWd hR0 hWs hne
      refine meets_of [] mixed Tryd.func5 rfl (by kernel_rfl) (by kernel_rfl) (by rw [Tryd.ntmps5]; simp only [List.length_cons, List.length_nil]; omega) (fun hf => ?_)
      rw [Tryd.results5]
      clear hf
      try simp -implicitDefEqProofs only [hne, lenMax, bne_self_eq_false, push_cast, Nat.reduceEqDiff, Nat.reduceBEq, Nat.reduceBNe, Nat.reduceAdd, Nat.reduceMul, Nat.reduceLT, Nat.reduceLeDiff, Nat.reduceSub, reduceCtorEq, Int.reduceToNat, ↓reduceIte]
      repeat'
        (first
         | (refine uYes ?_; first | exact List.mem_cons_self | (simp only [List.mem_cons, List.not_mem_nil, or_false, true_or, or_true]; done))
         | (refine uNo (by kernel_rfl))
         | (refine flatMk ?_; kernel_rfl)
         | (refine And.intro ?_ ?_)
         | (intro hx)
         | ((first
             | (refine callGF ?_)
             | (refine callQGF ?_)
             | (refine skipG ?_)
             | (refine callS (hD _) ?_)
             | (refine callQ (hD _) ?_)
             | (refine callG (fun hc => (hD _)) ?_)
             | (refine callQG (fun hc => (hD _)) ?_)
             | (refine callS (hI _) ?_)
             | (refine callQ (hI _) ?_)
             | (refine callG (fun hc => (hI _)) ?_)
             | (refine callQG (fun hc => (hI _)) ?_)
             | (refine callS (hS _) ?_)
             | (refine callQ (hS _) ?_)
             | (refine callG (fun hc => (hS _)) ?_)
             | (refine callQG (fun hc => (hS _)) ?_)
             | (refine callS (hQx _) ?_)
             | (refine callQ (hQx _) ?_)
             | (refine callG (fun hc => (hQx _)) ?_)
             | (refine callQG (fun hc => (hQx _)) ?_)
             | (refine callS (hWx _) ?_)
             | (refine callQ (hWx _) ?_)
             | (refine callG (fun hc => (hWx _)) ?_)
             | (refine callQG (fun hc => (hWx _)) ?_)
             | (refine callS (hE _) ?_)
             | (refine callQ (hE _) ?_)
             | (refine callG (fun hc => (hE _)) ?_)
             | (refine callQG (fun hc => (hE _)) ?_)
             | (refine callS (hWd _) ?_)
             | (refine callQ (hWd _) ?_)
             | (refine callG (fun hc => (hWd _)) ?_)
             | (refine callQG (fun hc => (hWd _)) ?_)
             | (refine callS (hR0 _) ?_)
             | (refine callQ (hR0 _) ?_)
             | (refine callG (fun hc => (hR0 _)) ?_)
             | (refine callQG (fun hc => (hR0 _)) ?_)
             | (refine callS (hWs _) ?_)
             | (refine callQ (hWs _) ?_)
             | (refine callG (fun hc => (hWs _)) ?_)
             | (refine callQG (fun hc => (hWs _)) ?_)
             | (refine callS (hQd _) ?_)
             | (refine callQ (hQd _) ?_)
             | (refine callG (fun hc => (hQd _)) ?_)
             | (refine callQG (fun hc => (hQd _)) ?_)); simp -implicitDefEqProofs only [hne, lenMax, bne_self_eq_false, push_cast, Nat.reduceEqDiff, Nat.reduceBEq, Nat.reduceBNe, Nat.reduceAdd, Nat.reduceMul, Nat.reduceLT, Nat.reduceLeDiff, Nat.reduceSub, reduceCtorEq, Int.reduceToNat, ↓reduceIte]))
      all_goals first
        | omega
        | (exfalso; simp_all; done)
        | (simp_all; done)
        | trace_state
    | false =>
      rw [hb', if_neg (by decide)] at hWd hR0 hWs
      have hr0 : opsVI [] = ([], false) := rfl
      rw [hr0] at hR0
      refine meets_of [] mixed Tryd.func5 rfl (by kernel_rfl) (by kernel_rfl) (by rw [Tryd.ntmps5]; simp only [List.length_cons, List.length_nil]; omega) (fun hf => ?_)
      rw [Tryd.results5]
      clear hf
      try simp -implicitDefEqProofs only [lenMax, bne_self_eq_false, push_cast, Nat.reduceEqDiff, Nat.reduceBEq, Nat.reduceBNe, Nat.reduceAdd, Nat.reduceMul, Nat.reduceLT, Nat.reduceLeDiff, Nat.reduceSub, reduceCtorEq, Int.reduceToNat, ↓reduceIte]
      repeat'
        (first
         | (refine uYes ?_; first | exact List.mem_cons_self | (simp only [List.mem_cons, List.not_mem_nil, or_false, true_or, or_true]; done))
         | (refine uNo (by kernel_rfl))
         | (refine flatMk ?_; kernel_rfl)
         | (refine And.intro ?_ ?_)
         | (intro hx)
         | ((first
             | (refine callGF ?_)
             | (refine callQGF ?_)
             | (refine skipG ?_)
             | (refine callS (hD _) ?_)
             | (refine callQ (hD _) ?_)
             | (refine callG (fun hc => (hD _)) ?_)
             | (refine callQG (fun hc => (hD _)) ?_)
             | (refine callS (hI _) ?_)
             | (refine callQ (hI _) ?_)
             | (refine callG (fun hc => (hI _)) ?_)
             | (refine callQG (fun hc => (hI _)) ?_)
             | (refine callS (hS _) ?_)
             | (refine callQ (hS _) ?_)
             | (refine callG (fun hc => (hS _)) ?_)
             | (refine callQG (fun hc => (hS _)) ?_)
             | (refine callS (hQx _) ?_)
             | (refine callQ (hQx _) ?_)
             | (refine callG (fun hc => (hQx _)) ?_)
             | (refine callQG (fun hc => (hQx _)) ?_)
             | (refine callS (hWx _) ?_)
             | (refine callQ (hWx _) ?_)
             | (refine callG (fun hc => (hWx _)) ?_)
             | (refine callQG (fun hc => (hWx _)) ?_)
             | (refine callS (hE _) ?_)
             | (refine callQ (hE _) ?_)
             | (refine callG (fun hc => (hE _)) ?_)
             | (refine callQG (fun hc => (hE _)) ?_)
             | (refine callS (hWd _) ?_)
             | (refine callQ (hWd _) ?_)
             | (refine callG (fun hc => (hWd _)) ?_)
             | (refine callQG (fun hc => (hWd _)) ?_)
             | (refine callS (hR0 _) ?_)
             | (refine callQ (hR0 _) ?_)
             | (refine callG (fun hc => (hR0 _)) ?_)
             | (refine callQG (fun hc => (hR0 _)) ?_)
             | (refine callS (hWs _) ?_)
             | (refine callQ (hWs _) ?_)
             | (refine callG (fun hc => (hWs _)) ?_)
             | (refine callQG (fun hc => (hWs _)) ?_)
             | (refine callS (hQd _) ?_)
             | (refine callQ (hQd _) ?_)
             | (refine callG (fun hc => (hQd _)) ?_)
             | (refine callQG (fun hc => (hQd _)) ?_)); simp -implicitDefEqProofs only [lenMax, bne_self_eq_false, push_cast, Nat.reduceEqDiff, Nat.reduceBEq, Nat.reduceBNe, Nat.reduceAdd, Nat.reduceMul, Nat.reduceLT, Nat.reduceLeDiff, Nat.reduceSub, reduceCtorEq, Int.reduceToNat, ↓reduceIte]))
      all_goals first
        | omega
        | (exfalso; simp_all; done)
        | (simp_all; done)
        | trace_state
  rcases opsVI_or tx with ⟨xs, q1, q2, q3⟩ | q3
  · exact key (xs, true) (fun _ => by simp only; rw [if_pos q1, q2]) q3
  · exact key ([], false) (fun e => by cases e) q3
end Go.Proofs.YtdoclnjmcmdfdaaDoor
