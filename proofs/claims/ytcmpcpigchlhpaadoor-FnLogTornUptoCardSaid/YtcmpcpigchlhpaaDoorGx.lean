/- The library's Split and Atoi, as contracts over data; numbers read on both sides. -/
import Derived.Test.YtcmpcpigchlhpaaDoorGs
import Derived.Test.YtcmpcpigchlhpaaDoorShm
import Derived.Test.YtcmpcpigchlhpaaDoorGt
import Derived.Stop.LaidErr
import Derived.Shelf.Vars
import Derived.LaidLaws

namespace Go.Proofs.YtcmpcpigchlhpaaDoor
set_option linter.unusedSectionVars false
open Go.Av
variable [Av.Start]
set_option maxRecDepth 10000
set_option maxHeartbeats 1000000
set_option linter.unusedSimpArgs false
set_option linter.unusedVariables false

/-- the library's limit of short texts holds a number -/
class TabMax [Av.Start] : Prop where
  max : ∃ m : Int, Av.Start.w0.cell? ⟨(Tryd.prog.globalNamed "internal/bytealg.MaxLen").getD 0, 0, none⟩ = some (.int .i64 m)
/-- the library's two errors -/
class TabErr [Av.Start] : Prop where
  synt : ∃ tp p, Av.Start.w0.var? Tryd.prog "strconv.ErrSyntax" = some #[.iface tp p]
  rang : ∃ tp p, Av.Start.w0.var? Tryd.prog "strconv.ErrRange" = some #[.iface tp p]

theorem atoi_ok (s : List UInt8) (v : Int) (h : Hp) (e : okV (Lib.atoiAll s) = some v) : Gives Tryd.prog 35 [.str s] h (.tup [.int .i64 v, .nilif]) := by
  refine gives_lib (enters_at Tryd.func35 (by kernel_rfl) (by kernel_rfl)) fun w σ vs hi hr => ?_
  obtain ⟨u, rfl, hu⟩ := repL1 hr
  cases hu with
  | str _ hl =>
    simp only [lenMax] at hl
    refine (Any.strconv_Atoi_ok Tryd.laysC172 ⟨s.toArray⟩ (by show s.toArray.size ≤ _; simp; omega) v (okV_some e) w).mono ?_
    rintro e w' ⟨rfl, hw⟩
    refine ⟨_, rfl, ?_, fun ow _ => ?_⟩
    · rcases hw with rfl | ⟨t, rfl⟩
      · exact .refl _ _
      · exact Lib.bytesWorld_below w _ t
    · exact .tup _ [.int .i64 v, .nilIface] rfl (fun k h1 h2 => by
        match k, h2 with
        | 0, _ => exact .int _ _
        | 1, _ => exact .nilif)
theorem atoi_bad [TabErr] (s : List UInt8) (h : Hp) (e : okV (Lib.atoiAll s) = none) : Gives Tryd.prog 35 [.str s] h (.tup [.int .i64 (badV s), .iface 82 .junk]) := by
  refine gives_lib (enters_at Tryd.func35 (by kernel_rfl) (by kernel_rfl)) fun w σ vs hi hr => ?_
  obtain ⟨u, rfl, hu⟩ := repL1 hr
  cases hu with
  | str _ hl =>
    simp only [lenMax] at hl
    have hd : ∀ (x : Int) (v : Value) (w' : World) (ow : Nat → Nat → Prop), Rep w' ow σ h (.tup [.int .i64 x, .iface 82 .junk]) (.tuple #[.int .i64 x, .iface 82 v]) := fun x v w' ow =>
      .tup _ [.int .i64 x, .iface _ v] rfl (fun k h1 h2 => by
        match k, h2 with
        | 0, _ => exact .int _ _
        | 1, _ => exact .iface _ _ _ (.junk _))
    cases he : Lib.atoiAll s with
    | ok v => rw [he] at e; cases e
    | range =>
      obtain ⟨tp, p, hv⟩ := (inferInstance : TabErr).rang
      refine (Any.strconv_Atoi_range_var Tryd.laysC172 ⟨s.toArray⟩ (by show s.toArray.size ≤ _; simp; omega) he tp p w (var_kept hi.kept.same hv)).mono ?_
      rintro e w' ⟨N, rfl, _, _, hb⟩
      refine ⟨_, rfl, hb, fun ow _ => ?_⟩
      rw [badV, if_pos he]
      exact hd _ _ _ _
    | _ =>
      obtain ⟨tp, p, hv⟩ := (inferInstance : TabErr).synt
      refine (Any.strconv_Atoi_syntax_var Tryd.laysC172 ⟨s.toArray⟩ (by show s.toArray.size ≤ _; simp; omega) he tp p w (var_kept hi.kept.same hv)).mono ?_
      rintro e w' ⟨N, rfl, _, _, hb⟩
      refine ⟨_, rfl, hb, fun ow _ => ?_⟩
      rw [badV, if_neg (by rw [he]; intro q; cases q)]
      exact hd _ _ _ _
end Go.Proofs.YtcmpcpigchlhpaaDoor

/- Numbers and lists of words read out of texts, on both sides. -/
namespace Go.Proofs.YtcmpcpigchlhpaaDoor
set_option linter.unusedSectionVars false
open Go.Av
variable [Av.Start] [TabPow] [TabErr] [TabMax]
set_option maxRecDepth 10000
set_option maxHeartbeats 1000000
set_option linter.unusedSimpArgs false
set_option linter.unusedVariables false

theorem number_gives (s : List UInt8) (h : Hp) : Gives Tryd.prog 22 [.str s] h (.tup [.int .i64 (numV s).1, .bool (numV s).2]) := by
  cases e : okV (Lib.atoiAll s) with
  | some v =>
    have hv := Lib.atoiAll_bounds (okV_some e)
    rw [numV, e]
    refine meets_of [] mixed Tryd.func22 rfl (by kernel_rfl) (by kernel_rfl) (by rw [Tryd.ntmps22]; simp only [List.length_cons, List.length_nil]; omega) (fun hf => ?_)
    rw [Tryd.results22]
    clear hf
    try simp -implicitDefEqProofs only [lenMax, push_cast, Nat.reduceEqDiff, Nat.reduceBEq, Nat.reduceBNe, Nat.reduceAdd, Nat.reduceMul, Nat.reduceLT, Nat.reduceLeDiff, Nat.reduceSub, reduceCtorEq, Int.reduceToNat, ↓reduceIte]
    repeat'
      (first
       | (refine uYes ?_; first | exact List.mem_cons_self | (simp only [List.mem_cons, List.not_mem_nil, or_false, true_or, or_true]; done))
       | (refine uNo (by kernel_rfl))
       | (refine flatMk ?_; kernel_rfl)
       | (refine And.intro ?_ ?_)
       | (intro hx)
       | ((first
           | (refine callGF ?_)
           | (refine callQGF ?_)
           | (refine skipG ?_)
           | (refine callS (atoi_ok s v _ e) ?_)
           | (refine callQ (atoi_ok s v _ e) ?_)
           | (refine callG (fun hc => (atoi_ok s v _ e)) ?_)
           | (refine callQG (fun hc => (atoi_ok s v _ e)) ?_)
           | (refine callS (itoa_gives v _ hv.1 hv.2) ?_)
           | (refine callQ (itoa_gives v _ hv.1 hv.2) ?_)
           | (refine callG (fun hc => (itoa_gives v _ hv.1 hv.2)) ?_)
           | (refine callQG (fun hc => (itoa_gives v _ hv.1 hv.2)) ?_)); simp -implicitDefEqProofs only [lenMax, push_cast, Nat.reduceEqDiff, Nat.reduceBEq, Nat.reduceBNe, Nat.reduceAdd, Nat.reduceMul, Nat.reduceLT, Nat.reduceLeDiff, Nat.reduceSub, reduceCtorEq, Int.reduceToNat, ↓reduceIte]))
    all_goals trace_state
  | none =>
    rw [numV, e]
    refine meets_of [] mixed Tryd.func22 rfl (by kernel_rfl) (by kernel_rfl) (by rw [Tryd.ntmps22]; simp only [List.length_cons, List.length_nil]; omega) (fun hf => ?_)
    rw [Tryd.results22]
    clear hf
    try simp -implicitDefEqProofs only [lenMax, push_cast, Nat.reduceEqDiff, Nat.reduceBEq, Nat.reduceBNe, Nat.reduceAdd, Nat.reduceMul, Nat.reduceLT, Nat.reduceLeDiff, Nat.reduceSub, reduceCtorEq, Int.reduceToNat, ↓reduceIte]
    repeat'
      (first
       | (refine uYes ?_; first | exact List.mem_cons_self | (simp only [List.mem_cons, List.not_mem_nil, or_false, true_or, or_true]; done))
       | (refine uNo (by kernel_rfl))
       | (refine flatMk ?_; kernel_rfl)
       | (refine And.intro ?_ ?_)
       | (intro hx)
       | ((first
           | (refine callGF ?_)
           | (refine callQGF ?_)
           | (refine skipG ?_)
           | (refine callS (atoi_bad s _ e) ?_)
           | (refine callQ (atoi_bad s _ e) ?_)
           | (refine callG (fun hc => (atoi_bad s _ e)) ?_)
           | (refine callQG (fun hc => (atoi_bad s _ e)) ?_)
           | (refine callS (itoa_gives 0 _ (by omega) (by omega)) ?_)
           | (refine callQ (itoa_gives 0 _ (by omega) (by omega)) ?_)
           | (refine callG (fun hc => (itoa_gives 0 _ (by omega) (by omega))) ?_)
           | (refine callQG (fun hc => (itoa_gives 0 _ (by omega) (by omega))) ?_)); simp -implicitDefEqProofs only [lenMax, push_cast, Nat.reduceEqDiff, Nat.reduceBEq, Nat.reduceBNe, Nat.reduceAdd, Nat.reduceMul, Nat.reduceLT, Nat.reduceLeDiff, Nat.reduceSub, reduceCtorEq, Int.reduceToNat, ↓reduceIte]))
    all_goals trace_state
omit [TabPow] [TabErr] [TabMax]
theorem isDg_iff (b : UInt8) : isDg b = (!(decide ((b.toNat : Int) < 48)) && !(decide ((57 : Int) < b.toNat))) := by
  rw [isDg]
  by_cases h1 : 48 ≤ b.toNat <;> by_cases h2 : b.toNat ≤ 57
  · rw [decide_eq_true ⟨h1, h2⟩, decide_eq_false (by omega), decide_eq_false (by omega)]; rfl
  · rw [decide_eq_false (by omega), decide_eq_false (by omega), decide_eq_true (by omega)]; rfl
  · rw [decide_eq_false (by omega), decide_eq_true (by omega)]; rfl
  · rw [decide_eq_false (by omega), decide_eq_true (by omega)]; rfl
theorem u8_wrapQ {n : Int} (h0 : 0 ≤ n) (h1 : n ≤ 255) : IntKind.u8.wrap n = n := by
  rw [show IntKind.u8.wrap n = n % 256 from rfl]
  omega
theorem take_valD (s : List UInt8) {k : Nat} (hk : k < s.length) : valD (s.take (k + 1)) = valD (s.take k) * 10 + ((s.getD k 0).toNat - 48) := by
  rw [List.take_succ_eq_append_getElem hk, valD_app, stepD, List.getD_eq_getElem?_getD, List.getElem?_eq_getElem hk]
  rfl
theorem take_all (s : List UInt8) {k : Nat} (hk : k < s.length) : (s.take (k + 1)).all isDg = ((s.take k).all isDg && isDg (s.getD k 0)) := by
  rw [List.take_succ_eq_append_getElem hk, List.all_append, List.getD_eq_getElem?_getD, List.getElem?_eq_getElem hk]
  simp
theorem head_getD (s : List UInt8) (h : 0 < s.length) : s.head? = some (s.getD 0 0) := by
  cases s with
  | nil => simp at h
  | cons b r => rfl
theorem l2Num_gives (s : List UInt8) (h : Hp) : Gives Tryd.prog 51 [.str s] h (.int .i64 (num12 s)) := by
  refine meets_of [] mixed Tryd.func51 rfl (by kernel_rfl) (by kernel_rfl) (by rw [Tryd.ntmps51]; simp only [List.length_cons, List.length_nil]; omega) (fun hf => ?_)
  rw [Tryd.results51]
  have hl : s.length ≤ 1073741824 := by simpa [fitsD, flen, lenMax] using hf
  clear hf
  by_cases h1 : 1 ≤ s.length ∧ s.length ≤ 12
  · have hin : inB s.length 1 12 = true := by simp [inB]; omega
    have hd0 := head_getD s (by omega)
    try simp -implicitDefEqProofs only [hin, push_cast, Nat.reduceEqDiff, Nat.reduceBEq, Nat.reduceBNe, Nat.reduceAdd, Nat.reduceMul, Nat.reduceLT, Nat.reduceLeDiff, Nat.reduceSub, reduceCtorEq, Int.reduceToNat, ↓reduceIte]
    repeat'
      (first
       | (refine uYes ?_; first | exact List.mem_cons_self | (simp only [List.mem_cons, List.not_mem_nil, or_false, true_or, or_true]; done))
       | (refine uNo (by kernel_rfl))
       | (refine flatMk ?_; kernel_rfl)
       | (refine And.intro ?_ ?_)
       | (intro hx)
       | ((first
           | (refine callGF ?_)
           | (refine callQGF ?_)
           | (refine skipG ?_)
           | (refine callS (l1In_gives _ _ _ _) ?_)
           | (refine callQ (l1In_gives _ _ _ _) ?_)
           | (refine callG (fun hc => (l1In_gives _ _ _ _)) ?_)
           | (refine callQG (fun hc => (l1In_gives _ _ _ _)) ?_)); simp -implicitDefEqProofs only [hin, push_cast, Nat.reduceEqDiff, Nat.reduceBEq, Nat.reduceBNe, Nat.reduceAdd, Nat.reduceMul, Nat.reduceLT, Nat.reduceLeDiff, Nat.reduceSub, reduceCtorEq, Int.reduceToNat, ↓reduceIte]))
    all_goals first
      | omega
      | (rw [num12, if_neg]
         rintro ⟨_, h2, _⟩
         rcases h2 with h2 | h2
         · omega
         · rw [hd0] at h2
           exact h2 (congrArg some (UInt8.toNat_inj.1 (by have : (48 : UInt8).toNat = 48 := rfl; omega))))
      | skip
    rename_i hx
    have hz : s.length ≤ 1 ∨ s.head? ≠ some 48 := by
      by_cases h2 : s.length ≤ 1
      · exact .inl h2
      · refine .inr fun e => ?_
        rw [hd0] at e
        have e2 := congrArg UInt8.toNat (Option.some.inj e)
        have : (48 : UInt8).toNat = 48 := rfl
        exact hx (by omega) (by omega)
    refine ev_loop0 [] (fun k : Nat => [(0, .str s), (3, .int .i64 (valD (s.take k) : Nat)), (4, .int .i64 k)]) (fun k => k ≤ s.length ∧ (s.take k).all isDg = true) (fun k => s.length - k) 0 trivial ⟨Nat.zero_le _, rfl⟩ ?_ ?_
    · refine ⟨rfl, [], ?_⟩
      simp -implicitDefEqProofs only [lenMax, Int.natCast_add, Int.cast_ofNat_Int, List.length_nil, Nat.le_refl, WeakTo, tokSts, tokOks, List.append_cancel_left_eq, exists_eq_left', exists_eq_left, List.append_cancel_left_eq, List.take_length, ObCl, and_true, true_and, push_cast, Nat.reduceEqDiff, Nat.reduceBEq, Nat.reduceBNe, Nat.reduceAdd, Nat.reduceMul, Nat.reduceLT, Nat.reduceLeDiff, Nat.reduceSub, reduceCtorEq, Int.reduceToNat, ↓reduceIte]
      rfl
    · rintro k ⟨hk, hall⟩
      have hv := valD_lt (s.take k) 0 hall
      have hv2 : 10 ^ (s.take k).length ≤ 10 ^ 12 := Nat.pow_le_pow_right (by decide) (by rw [List.length_take]; omega)
      have hv3 : valD (s.take k) < 1000000000000 := by
        have : valD (s.take k) < (0 + 1) * 10 ^ (s.take k).length := hv
        omega
      by_cases hk2 : k < s.length
      · try simp -implicitDefEqProofs only [hk2, push_cast, Nat.reduceEqDiff, Nat.reduceBEq, Nat.reduceBNe, Nat.reduceAdd, Nat.reduceMul, Nat.reduceLT, Nat.reduceLeDiff, Nat.reduceSub, reduceCtorEq, Int.reduceToNat, ↓reduceIte]
        repeat'
          (first
           | (refine uYes ?_; first | exact List.mem_cons_self | (simp only [List.mem_cons, List.not_mem_nil, or_false, true_or, or_true]; done))
           | (refine uNo (by kernel_rfl))
           | (refine flatMk ?_; kernel_rfl)
           | (refine And.intro ?_ ?_)
           | (intro hx)
           | ((first
               | (refine callGF ?_)
               | (refine callQGF ?_)
               | (refine skipG ?_)
               | (refine callS (l1In_gives _ _ _ _) ?_)
               | (refine callQ (l1In_gives _ _ _ _) ?_)
               | (refine callG (fun hc => (l1In_gives _ _ _ _)) ?_)
               | (refine callQG (fun hc => (l1In_gives _ _ _ _)) ?_)); simp -implicitDefEqProofs only [hk2, push_cast, Nat.reduceEqDiff, Nat.reduceBEq, Nat.reduceBNe, Nat.reduceAdd, Nat.reduceMul, Nat.reduceLT, Nat.reduceLeDiff, Nat.reduceSub, reduceCtorEq, Int.reduceToNat, ↓reduceIte]))
        all_goals first
          | omega
          | (rename_i hx
             rw [num12, if_neg]
             rintro ⟨_, _, h2⟩
             have h3 := List.all_eq_true.1 h2 (s.getD k 0) (by rw [List.getD_eq_getElem?_getD, List.getElem?_eq_getElem hk2]; exact List.getElem_mem hk2)
             rw [isDg, decide_eq_true_eq] at h3
             omega)
          | skip
        rename_i hx
        have hd2 : isDg (s.getD k 0) = true := by rw [isDg, decide_eq_true_eq]; omega
        have w1 : IntKind.i64.wrap (((valD (s.take k) : Nat) : Int) * 10) = ((valD (s.take k) : Nat) : Int) * 10 := wrap_id (by omega) (by omega)
        have w2 : IntKind.u8.wrap (((s.getD k 0).toNat : Int) - 48) = ((s.getD k 0).toNat : Int) - 48 := u8_wrapQ (by omega) (by omega)
        have w3 : IntKind.i64.wrap (((s.getD k 0).toNat : Int) - 48) = ((s.getD k 0).toNat : Int) - 48 := wrap_id (by omega) (by omega)
        have w4 : IntKind.i64.wrap (((valD (s.take k) : Nat) : Int) * 10 + (((s.getD k 0).toNat : Int) - 48)) = ((valD (s.take k) : Nat) : Int) * 10 + (((s.getD k 0).toNat : Int) - 48) := wrap_id (by omega) (by omega)
        refine round_mk0 (k + 1) ⟨hk2, by rw [take_all s hk2, hall, hd2]; rfl⟩ (by omega) ⟨[], ?_⟩
        rw [take_valD s hk2]
        simp -implicitDefEqProofs only [w1, w2, w3, w4, Int.natCast_add, Int.natCast_mul, Int.natCast_add, Int.cast_ofNat_Int, List.length_nil, Nat.le_refl, WeakTo, tokSts, tokOks, List.append_cancel_left_eq, exists_eq_left', exists_eq_left, List.append_cancel_left_eq, List.take_length, ObCl, and_true, true_and, push_cast, Nat.reduceEqDiff, Nat.reduceBEq, Nat.reduceBNe, Nat.reduceAdd, Nat.reduceMul, Nat.reduceLT, Nat.reduceLeDiff, Nat.reduceSub, reduceCtorEq, Int.reduceToNat, ↓reduceIte]
        exact ⟨by omega, wrap_id (by omega) (by omega)⟩
      · obtain rfl : k = s.length := by omega
        try simp -implicitDefEqProofs only [hk2, push_cast, Nat.reduceEqDiff, Nat.reduceBEq, Nat.reduceBNe, Nat.reduceAdd, Nat.reduceMul, Nat.reduceLT, Nat.reduceLeDiff, Nat.reduceSub, reduceCtorEq, Int.reduceToNat, ↓reduceIte]
        repeat'
          (first
           | (refine uYes ?_; first | exact List.mem_cons_self | (simp only [List.mem_cons, List.not_mem_nil, or_false, true_or, or_true]; done))
           | (refine uNo (by kernel_rfl))
           | (refine flatMk ?_; kernel_rfl)
           | (refine And.intro ?_ ?_)
           | (intro hx)
           | ((first
               | (refine callGF ?_)
               | (refine callQGF ?_)
               | (refine skipG ?_)
               | (refine callS (l1In_gives _ _ _ _) ?_)
               | (refine callQ (l1In_gives _ _ _ _) ?_)
               | (refine callG (fun hc => (l1In_gives _ _ _ _)) ?_)
               | (refine callQG (fun hc => (l1In_gives _ _ _ _)) ?_)); simp -implicitDefEqProofs only [hk2, push_cast, Nat.reduceEqDiff, Nat.reduceBEq, Nat.reduceBNe, Nat.reduceAdd, Nat.reduceMul, Nat.reduceLT, Nat.reduceLeDiff, Nat.reduceSub, reduceCtorEq, Int.reduceToNat, ↓reduceIte]))
        all_goals first
          | omega
          | (rw [num12, if_pos ⟨h1, hz, by rwa [List.take_length] at hall⟩])
  · have hin : inB s.length 1 12 = false := by simp [inB]; omega
    try simp -implicitDefEqProofs only [hin, push_cast, Nat.reduceEqDiff, Nat.reduceBEq, Nat.reduceBNe, Nat.reduceAdd, Nat.reduceMul, Nat.reduceLT, Nat.reduceLeDiff, Nat.reduceSub, reduceCtorEq, Int.reduceToNat, ↓reduceIte]
    repeat'
      (first
       | (refine uYes ?_; first | exact List.mem_cons_self | (simp only [List.mem_cons, List.not_mem_nil, or_false, true_or, or_true]; done))
       | (refine uNo (by kernel_rfl))
       | (refine flatMk ?_; kernel_rfl)
       | (refine And.intro ?_ ?_)
       | (intro hx)
       | ((first
           | (refine callGF ?_)
           | (refine callQGF ?_)
           | (refine skipG ?_)
           | (refine callS (l1In_gives _ _ _ _) ?_)
           | (refine callQ (l1In_gives _ _ _ _) ?_)
           | (refine callG (fun hc => (l1In_gives _ _ _ _)) ?_)
           | (refine callQG (fun hc => (l1In_gives _ _ _ _)) ?_)); simp -implicitDefEqProofs only [hin, push_cast, Nat.reduceEqDiff, Nat.reduceBEq, Nat.reduceBNe, Nat.reduceAdd, Nat.reduceMul, Nat.reduceLT, Nat.reduceLeDiff, Nat.reduceSub, reduceCtorEq, Int.reduceToNat, ↓reduceIte]))
    rw [num12, if_neg (fun h2 => h1 h2.1)]
end Go.Proofs.YtcmpcpigchlhpaaDoor

/- The reference cuts a text at a byte. -/
namespace Go.Proofs.YtcmpcpigchlhpaaDoor
set_option linter.unusedSectionVars false
open Go.Av
variable [Av.Start]
set_option maxRecDepth 10000
set_option maxHeartbeats 1000000
set_option linter.unusedSimpArgs false
set_option linter.unusedVariables false

omit [Av.Start] in
theorem splitC_snoc (c b : UInt8) : ∀ (a : List UInt8) (o : List (List UInt8)) (l : List UInt8), splitC c a = o ++ [l] → splitC c (a ++ [b]) = if b = c then o ++ [l] ++ [[]] else o ++ [l ++ [b]]
  | [], o, l, h => by
    have : o = [] ∧ l = [] := by
      cases o with
      | nil => simpa [splitC, eq_comm] using h
      | cons x o => simp [splitC] at h
    obtain ⟨rfl, rfl⟩ := this
    show splitC c [b] = _
    rw [splitC, splitC]
    split <;> rfl
  | d :: a, o, l, h => by
    rw [splitC] at h
    rw [List.cons_append, splitC]
    by_cases e : d = c
    · rw [if_pos e] at h ⊢
      cases o with
      | nil =>
        simp only [List.nil_append, List.cons.injEq] at h
        exact absurd h.2 (splitC_ne c a)
      | cons x o =>
        simp only [List.cons_append, List.cons.injEq] at h
        obtain ⟨rfl, h⟩ := h
        rw [splitC_snoc c b a o l h]
        split <;> rfl
    · rw [if_neg e] at h ⊢
      cases hs : splitC c a with
      | nil => exact absurd hs (splitC_ne c a)
      | cons w ws =>
        rw [hs] at h
        simp only at h
        cases o with
        | nil =>
          simp only [List.nil_append, List.cons.injEq] at h
          obtain ⟨rfl, rfl⟩ := h
          rw [splitC_snoc c b a [] w hs]
          by_cases hb : b = c
          · simp [hb]
          · simp [hb]
        | cons x o =>
          simp only [List.cons_append, List.cons.injEq] at h
          obtain ⟨rfl, rfl⟩ := h
          rw [splitC_snoc c b a (w :: o) l hs]
          by_cases hb : b = c
          · simp [hb]
          · simp [hb]
structure CutI (c : UInt8) (s : List UInt8) (x : Nat × Nat × List (List UInt8)) : Prop where
  le : x.1 ≤ s.length
  fr : x.2.1 ≤ x.1
  eq : splitC c (s.take x.1) = x.2.2 ++ [(s.take x.1).drop x.2.1]
/-- what l2Int reads -/
def intV (s : List UInt8) : Int × Bool := if s.head? = some 45 then (-num12 (s.drop 1), decide (0 < num12 (s.drop 1))) else (num12 s, decide (0 ≤ num12 s))
end Go.Proofs.YtcmpcpigchlhpaaDoor

/- What a card's row gives of the library's variables: the limit of short texts, the two errors of strconv. -/
namespace Go.Proofs.YtcmpcpigchlhpaaDoor
set_option linter.unusedSectionVars false
open Go.Av
variable [Av.Start]
set_option maxRecDepth 10000
set_option maxHeartbeats 1000000
set_option linter.unusedVariables false

theorem errRow (u : TypeId) (h : Tryd.prog.typeName? 3 u = some "*errors.errorString") : u = 116 :=
  Go.typeName_ptr_named (nm := "errors.errorString") (by rw [show "*" ++ "errors.errorString" = "*errors.errorString" by decide]; kernel_rfl) (by kernel_rfl) (by decide) u (by rw [show "*" ++ "errors.errorString" = "*errors.errorString" by decide]; exact h)
theorem sentVar {W : World} {n : String} {g : Nat} {text : List UInt8} {r : List (String × DataW Unit)} (h : laidMet Tryd.prog ((n, .iface "*errors.errorString" (.ptr (.agg [.lit (.string text)]))) :: r) W)
    (hg : Tryd.prog.globalNamed n = some g) (ht : (Tryd.prog.globals[g]?).map (·.type) = some 58) : ∃ tp p, W.var? Tryd.prog n = some #[.iface tp p] := by
  obtain ⟨a, s, hv, _⟩ := laid_sentinel h hg ht Tryd.underlying58 errRow Tryd.underlying116 Tryd.underlying118 rfl rfl Tryd.underlying9 (by kernel_rfl) (by kernel_rfl)
  exact ⟨_, _, hv⟩
theorem rangG : Tryd.prog.globalNamed "strconv.ErrRange" = some ((Tryd.prog.globalNamed "strconv.ErrRange").getD 0) := by kernel_rfl
theorem syntG : Tryd.prog.globalNamed "strconv.ErrSyntax" = some ((Tryd.prog.globalNamed "strconv.ErrSyntax").getD 0) := by kernel_rfl
theorem rangT : (Tryd.prog.globals[(Tryd.prog.globalNamed "strconv.ErrRange").getD 0]?).map (·.type) = some 58 := by kernel_rfl
theorem syntT : (Tryd.prog.globals[(Tryd.prog.globalNamed "strconv.ErrSyntax").getD 0]?).map (·.type) = some 58 := by kernel_rfl
theorem errs_of {W : World} {a b c d : String × DataW Unit} {rest : List (String × DataW Unit)}
    (h : laidMet Tryd.prog (a :: b :: c :: d :: ("strconv.ErrRange", Rows.laid_strconv_ErrRange) :: ("strconv.ErrSyntax", Rows.laid_strconv_ErrSyntax) :: rest) W) :
    (∃ tp p, W.var? Tryd.prog "strconv.ErrSyntax" = some #[.iface tp p]) ∧ ∃ tp p, W.var? Tryd.prog "strconv.ErrRange" = some #[.iface tp p] :=
  ⟨sentVar h.tail.tail.tail.tail.tail syntG syntT, sentVar h.tail.tail.tail.tail rangG rangT⟩
theorem max_of {W : World} (h : W.ShapedOpen Tryd.prog) : ∃ m : Int, W.cell? ⟨(Tryd.prog.globalNamed "internal/bytealg.MaxLen").getD 0, 0, none⟩ = some (.int .i64 m) :=
  cell_of_shapedOpen_int (g := (Tryd.prog.globalNamed "internal/bytealg.MaxLen").getD 0) (t := 3) (zero := #[.int .i64 0]) h (of_decide_eq_true (by kernel_rfl)) (by kernel_rfl) rfl (by kernel_rfl) (by kernel_rfl) Tryd.underlying3
end Go.Proofs.YtcmpcpigchlhpaaDoor
