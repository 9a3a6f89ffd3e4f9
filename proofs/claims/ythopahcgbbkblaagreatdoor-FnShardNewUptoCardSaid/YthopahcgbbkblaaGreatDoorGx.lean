/- The library's Split and Atoi, as contracts over data; numbers read on both sides. -/
import Derived.Test.YthopahcgbbkblaaGreatDoorGs
import Derived.Test.YthopahcgbbkblaaGreatDoorShm
import Derived.Test.YthopahcgbbkblaaGreatDoorGt
import Derived.Stop.LaidErr
import Derived.Shelf.Vars
import Derived.LaidLaws

namespace Go.Proofs.YthopahcgbbkblaaGreatDoor
set_option linter.unusedSectionVars false
open Go.Av
variable [Av.Start]
set_option maxRecDepth 10000
set_option maxHeartbeats 1000000
set_option linter.unusedSimpArgs false
set_option linter.unusedVariables false

/-- the library's limit of short texts holds a number -/
class TabMax [Av.Start] : Prop where
  max : ∃ m : Int, Av.Start.w0.cell? ⟨(Tryz.prog.globalNamed "internal/bytealg.MaxLen").getD 0, 0, none⟩ = some (.int .i64 m)
/-- the library's two errors -/
class TabErr [Av.Start] : Prop where
  synt : ∃ tp p, Av.Start.w0.var? Tryz.prog "strconv.ErrSyntax" = some #[.iface tp p]
  rang : ∃ tp p, Av.Start.w0.var? Tryz.prog "strconv.ErrRange" = some #[.iface tp p]

theorem split_gives [TabMax] (s : List UInt8) (c : UInt8) (h : Hp) (hs : s.length ≤ 10000000) : Gives Tryz.prog 74 [.str s, .str [c]] h (.slice ((splitC c s).map .str) .no) := by
  refine gives_lib (enters_at Tryz.func74 (by kernel_rfl) (by kernel_rfl)) fun w σ vs hi hr => ?_
  obtain ⟨v, u, rfl, hv, hu⟩ := repL2 hr
  cases hv
  cases hu
  obtain ⟨m, hm⟩ := (inferInstance : TabMax).max
  have hm' := hi.cell0 hm
  refine (Any.strings_Split Tryz.lays146 (by kernel_rfl) ⟨s.toArray⟩ ⟨[c].toArray⟩ m w (by show s.toArray.size < _; simp; omega) hm' (Nat.le_refl 1)).mono ?_
  rintro e w' ⟨rfl, rfl⟩
  have hl := splitC_len c s
  have hc : Lib.countB ⟨s.toArray⟩ ⟨[c].toArray⟩ + 1 = (splitC c s).length := hl.symm
  have hB := splitB_eq c s
  refine ⟨_, rfl, (RowKit.Below.refl _ _).alloc (Nat.le_refl _) _, fun ow how => ?_⟩
  have hlen : (splitC c s).length ≤ lenMax := by
    have := (splitC_le c s).1
    simp only [lenMax]
    omega
  have e1 : Lib.countB ⟨s.toArray⟩ ⟨[c].toArray⟩ + 1 = ((splitC c s).map D.str).length := by rw [hc, List.length_map]
  rw [e1]
  refine .slice _ _ _ _ (fun k => .string ⟨((splitC c s).getD k []).toArray⟩) (by rw [List.length_map]; exact hlen) (Nat.le_refl _) trivial (fun _ _ e => nomatch e) (fun k hk => ?_) (fun k hk => ?_)
  · rw [flat_strs, List.length_map] at hk
    refine ⟨_, _, rfl, fun ho => absurd (how _ _ ho) (Nat.lt_irrefl _), ?_⟩
    rw [cell_mk (heap_alloc_new w _)]
    show ((Lib.splitB ⟨#[c]⟩ 0 (Lib.countB ⟨s.toArray⟩ ⟨#[c]⟩) ⟨s.toArray⟩).map Value.string).toArray[0 + k]? = _
    rw [hB]
    simp [hk, List.getD_eq_getElem?_getD]
  · simp only [flat_strs, List.getElem_map]
    rw [flat_strs, List.length_map] at hk
    have : (splitC c s).getD k [] = (splitC c s)[k] := by rw [List.getD_eq_getElem?_getD, List.getElem?_eq_getElem hk]; rfl
    rw [this]
    refine .str _ ?_
    have := (splitC_le c s).2 _ (List.getElem_mem hk)
    simp only [lenMax]
    omega
theorem atoi_ok (s : List UInt8) (v : Int) (h : Hp) (e : okV (Lib.atoiAll s) = some v) : Gives Tryz.prog 92 [.str s] h (.tup [.int .i64 v, .nilif]) := by
  refine gives_lib (enters_at Tryz.func92 (by kernel_rfl) (by kernel_rfl)) fun w σ vs hi hr => ?_
  obtain ⟨u, rfl, hu⟩ := repL1 hr
  cases hu with
  | str _ hl =>
    simp only [lenMax] at hl
    refine (Any.strconv_Atoi_ok Tryz.laysC172 ⟨s.toArray⟩ (by show s.toArray.size ≤ _; simp; omega) v (okV_some e) w).mono ?_
    rintro e w' ⟨rfl, hw⟩
    refine ⟨_, rfl, ?_, fun ow _ => ?_⟩
    · rcases hw with rfl | ⟨t, rfl⟩
      · exact .refl _ _
      · exact Lib.bytesWorld_below w _ t
    · exact .tup _ [.int .i64 v, .nilIface] rfl (fun k h1 h2 => by
        match k, h2 with
        | 0, _ => exact .int _ _
        | 1, _ => exact .nilif)
theorem atoi_bad [TabErr] (s : List UInt8) (h : Hp) (e : okV (Lib.atoiAll s) = none) : Gives Tryz.prog 92 [.str s] h (.tup [.int .i64 (badV s), .iface 148 .junk]) := by
  refine gives_lib (enters_at Tryz.func92 (by kernel_rfl) (by kernel_rfl)) fun w σ vs hi hr => ?_
  obtain ⟨u, rfl, hu⟩ := repL1 hr
  cases hu with
  | str _ hl =>
    simp only [lenMax] at hl
    have hd : ∀ (x : Int) (v : Value) (w' : World) (ow : Nat → Nat → Prop), Rep w' ow σ h (.tup [.int .i64 x, .iface 148 .junk]) (.tuple #[.int .i64 x, .iface 148 v]) := fun x v w' ow =>
      .tup _ [.int .i64 x, .iface _ v] rfl (fun k h1 h2 => by
        match k, h2 with
        | 0, _ => exact .int _ _
        | 1, _ => exact .iface _ _ _ (.junk _))
    cases he : Lib.atoiAll s with
    | ok v => rw [he] at e; cases e
    | range =>
      obtain ⟨tp, p, hv⟩ := (inferInstance : TabErr).rang
      refine (Any.strconv_Atoi_range_var Tryz.laysC172 ⟨s.toArray⟩ (by show s.toArray.size ≤ _; simp; omega) he tp p w (var_kept hi.kept.same hv)).mono ?_
      rintro e w' ⟨N, rfl, _, _, hb⟩
      refine ⟨_, rfl, hb, fun ow _ => ?_⟩
      rw [badV, if_pos he]
      exact hd _ _ _ _
    | _ =>
      obtain ⟨tp, p, hv⟩ := (inferInstance : TabErr).synt
      refine (Any.strconv_Atoi_syntax_var Tryz.laysC172 ⟨s.toArray⟩ (by show s.toArray.size ≤ _; simp; omega) he tp p w (var_kept hi.kept.same hv)).mono ?_
      rintro e w' ⟨N, rfl, _, _, hb⟩
      refine ⟨_, rfl, hb, fun ow _ => ?_⟩
      rw [badV, if_neg (by rw [he]; intro q; cases q)]
      exact hd _ _ _ _
end Go.Proofs.YthopahcgbbkblaaGreatDoor

/- Numbers and lists of words read out of texts, on both sides. -/
namespace Go.Proofs.YthopahcgbbkblaaGreatDoor
set_option linter.unusedSectionVars false
open Go.Av
variable [Av.Start] [TabPow] [TabErr] [TabMax]
set_option maxRecDepth 10000
set_option maxHeartbeats 1000000
set_option linter.unusedSimpArgs false
set_option linter.unusedVariables false

theorem number_gives (s : List UInt8) (h : Hp) : Gives Tryz.prog 70 [.str s] h (.tup [.int .i64 (numV s).1, .bool (numV s).2]) := by
  cases e : okV (Lib.atoiAll s) with
  | some v =>
    have hv := Lib.atoiAll_bounds (okV_some e)
    rw [numV, e]
    refine meets_of [] mixed Tryz.func70 rfl (by kernel_rfl) (by kernel_rfl) (by rw [Tryz.ntmps70]; simp only [List.length_cons, List.length_nil]; omega) (fun hf => ?_)
    rw [Tryz.results70]
    clear hf
    try simp -implicitDefEqProofs only [lenMax, push_cast, Nat.reduceEqDiff, Nat.reduceBEq, Nat.reduceBNe, Nat.reduceAdd, Nat.reduceMul, Nat.reduceLT, Nat.reduceLeDiff, Nat.reduceSub, reduceCtorEq, Int.reduceToNat, ↓reduceIte]
    repeat'
      (first
       | (refine uYes ?_; first | exact List.mem_cons_self | (simp only [List.mem_cons, List.not_mem_nil, or_false, true_or, or_true]; done))
       | (refine uNo (by kernel_rfl))
       | (refine flatMk ?_; kernel_rfl)
       | (refine And.intro ?_ ?_)
       | (intro hx)
       | ((first
           | (refine callGF ?_)
           | (refine callQGF ?_)
           | (refine skipG ?_)
           | (refine callS (atoi_ok s v _ e) ?_)
           | (refine callQ (atoi_ok s v _ e) ?_)
           | (refine callG (fun hc => (atoi_ok s v _ e)) ?_)
           | (refine callQG (fun hc => (atoi_ok s v _ e)) ?_)
           | (refine callS (itoa_gives v _ hv.1 hv.2) ?_)
           | (refine callQ (itoa_gives v _ hv.1 hv.2) ?_)
           | (refine callG (fun hc => (itoa_gives v _ hv.1 hv.2)) ?_)
           | (refine callQG (fun hc => (itoa_gives v _ hv.1 hv.2)) ?_)); simp -implicitDefEqProofs only [lenMax, push_cast, Nat.reduceEqDiff, Nat.reduceBEq, Nat.reduceBNe, Nat.reduceAdd, Nat.reduceMul, Nat.reduceLT, Nat.reduceLeDiff, Nat.reduceSub, reduceCtorEq, Int.reduceToNat, ↓reduceIte]))
    all_goals trace_state
  | none =>
    rw [numV, e]
    refine meets_of [] mixed Tryz.func70 rfl (by kernel_rfl) (by kernel_rfl) (by rw [Tryz.ntmps70]; simp only [List.length_cons, List.length_nil]; omega) (fun hf => ?_)
    rw [Tryz.results70]
    clear hf
    try simp -implicitDefEqProofs only [lenMax, push_cast, Nat.reduceEqDiff, Nat.reduceBEq, Nat.reduceBNe, Nat.reduceAdd, Nat.reduceMul, Nat.reduceLT, Nat.reduceLeDiff, Nat.reduceSub, reduceCtorEq, Int.reduceToNat, ↓reduceIte]
    repeat'
      (first
       | (refine uYes ?_; first | exact List.mem_cons_self | (simp only [List.mem_cons, List.not_mem_nil, or_false, true_or, or_true]; done))
       | (refine uNo (by kernel_rfl))
       | (refine flatMk ?_; kernel_rfl)
       | (refine And.intro ?_ ?_)
       | (intro hx)
       | ((first
           | (refine callGF ?_)
           | (refine callQGF ?_)
           | (refine skipG ?_)
           | (refine callS (atoi_bad s _ e) ?_)
           | (refine callQ (atoi_bad s _ e) ?_)
           | (refine callG (fun hc => (atoi_bad s _ e)) ?_)
           | (refine callQG (fun hc => (atoi_bad s _ e)) ?_)
           | (refine callS (itoa_gives 0 _ (by omega) (by omega)) ?_)
           | (refine callQ (itoa_gives 0 _ (by omega) (by omega)) ?_)
           | (refine callG (fun hc => (itoa_gives 0 _ (by omega) (by omega))) ?_)
           | (refine callQG (fun hc => (itoa_gives 0 _ (by omega) (by omega))) ?_)); simp -implicitDefEqProofs only [lenMax, push_cast, Nat.reduceEqDiff, Nat.reduceBEq, Nat.reduceBNe, Nat.reduceAdd, Nat.reduceMul, Nat.reduceLT, Nat.reduceLeDiff, Nat.reduceSub, reduceCtorEq, Int.reduceToNat, ↓reduceIte]))
    all_goals trace_state
omit [TabPow] [TabErr] [TabMax]
theorem isDg_iff (b : UInt8) : isDg b = (!(decide ((b.toNat : Int) < 48)) && !(decide ((57 : Int) < b.toNat))) := by
  rw [isDg]
  by_cases h1 : 48 ≤ b.toNat <;> by_cases h2 : b.toNat ≤ 57
  · rw [decide_eq_true ⟨h1, h2⟩, decide_eq_false (by omega), decide_eq_false (by omega)]; rfl
  · rw [decide_eq_false (by omega), decide_eq_false (by omega), decide_eq_true (by omega)]; rfl
  · rw [decide_eq_false (by omega), decide_eq_true (by omega)]; rfl
  · rw [decide_eq_false (by omega), decide_eq_true (by omega)]; rfl
theorem u8_wrapQ {n : Int} (h0 : 0 ≤ n) (h1 : n ≤ 255) : IntKind.u8.wrap n = n := by
  rw [show IntKind.u8.wrap n = n % 256 from rfl]
  omega
theorem take_valD (s : List UInt8) {k : Nat} (hk : k < s.length) : valD (s.take (k + 1)) = valD (s.take k) * 10 + ((s.getD k 0).toNat - 48) := by
  rw [List.take_succ_eq_append_getElem hk, valD_app, stepD, List.getD_eq_getElem?_getD, List.getElem?_eq_getElem hk]
  rfl
theorem take_all (s : List UInt8) {k : Nat} (hk : k < s.length) : (s.take (k + 1)).all isDg = ((s.take k).all isDg && isDg (s.getD k 0)) := by
  rw [List.take_succ_eq_append_getElem hk, List.all_append, List.getD_eq_getElem?_getD, List.getElem?_eq_getElem hk]
  simp
theorem head_getD (s : List UInt8) (h : 0 < s.length) : s.head? = some (s.getD 0 0) := by
  cases s with
  | nil => simp at h
  | cons b r => rfl
end Go.Proofs.YthopahcgbbkblaaGreatDoor

/- The reference cuts a text at a byte. -/
namespace Go.Proofs.YthopahcgbbkblaaGreatDoor
set_option linter.unusedSectionVars false
open Go.Av
variable [Av.Start]
set_option maxRecDepth 10000
set_option maxHeartbeats 1000000
set_option linter.unusedSimpArgs false
set_option linter.unusedVariables false

omit [Av.Start] in
theorem splitC_snoc (c b : UInt8) : ∀ (a : List UInt8) (o : List (List UInt8)) (l : List UInt8), splitC c a = o ++ [l] → splitC c (a ++ [b]) = if b = c then o ++ [l] ++ [[]] else o ++ [l ++ [b]]
  | [], o, l, h => by
    have : o = [] ∧ l = [] := by
      cases o with
      | nil => simpa [splitC, eq_comm] using h
      | cons x o => simp [splitC] at h
    obtain ⟨rfl, rfl⟩ := this
    show splitC c [b] = _
    rw [splitC, splitC]
    split <;> rfl
  | d :: a, o, l, h => by
    rw [splitC] at h
    rw [List.cons_append, splitC]
    by_cases e : d = c
    · rw [if_pos e] at h ⊢
      cases o with
      | nil =>
        simp only [List.nil_append, List.cons.injEq] at h
        exact absurd h.2 (splitC_ne c a)
      | cons x o =>
        simp only [List.cons_append, List.cons.injEq] at h
        obtain ⟨rfl, h⟩ := h
        rw [splitC_snoc c b a o l h]
        split <;> rfl
    · rw [if_neg e] at h ⊢
      cases hs : splitC c a with
      | nil => exact absurd hs (splitC_ne c a)
      | cons w ws =>
        rw [hs] at h
        simp only at h
        cases o with
        | nil =>
          simp only [List.nil_append, List.cons.injEq] at h
          obtain ⟨rfl, rfl⟩ := h
          rw [splitC_snoc c b a [] w hs]
          by_cases hb : b = c
          · simp [hb]
          · simp [hb]
        | cons x o =>
          simp only [List.cons_append, List.cons.injEq] at h
          obtain ⟨rfl, rfl⟩ := h
          rw [splitC_snoc c b a (w :: o) l hs]
          by_cases hb : b = c
          · simp [hb]
          · simp [hb]
structure CutI (c : UInt8) (s : List UInt8) (x : Nat × Nat × List (List UInt8)) : Prop where
  le : x.1 ≤ s.length
  fr : x.2.1 ≤ x.1
  eq : splitC c (s.take x.1) = x.2.2 ++ [(s.take x.1).drop x.2.1]
/-- what l2Int reads -/
def intV (s : List UInt8) : Int × Bool := if s.head? = some 45 then (-num12 (s.drop 1), decide (0 < num12 (s.drop 1))) else (num12 s, decide (0 ≤ num12 s))
end Go.Proofs.YthopahcgbbkblaaGreatDoor

/- What a card's row gives of the library's variables: the limit of short texts, the two errors of strconv. -/
namespace Go.Proofs.YthopahcgbbkblaaGreatDoor
set_option linter.unusedSectionVars false
open Go.Av
variable [Av.Start]
set_option maxRecDepth 10000
set_option maxHeartbeats 1000000
set_option linter.unusedVariables false

theorem errRow (u : TypeId) (h : Tryz.prog.typeName? 3 u = some "*errors.errorString") : u = 184 :=
  Go.typeName_ptr_named (nm := "errors.errorString") (by rw [show "*" ++ "errors.errorString" = "*errors.errorString" by decide]; kernel_rfl) (by kernel_rfl) (by decide) u (by rw [show "*" ++ "errors.errorString" = "*errors.errorString" by decide]; exact h)
theorem sentVar {W : World} {n : String} {g : Nat} {text : List UInt8} {r : List (String × DataW Unit)} (h : laidMet Tryz.prog ((n, .iface "*errors.errorString" (.ptr (.agg [.lit (.string text)]))) :: r) W)
    (hg : Tryz.prog.globalNamed n = some g) (ht : (Tryz.prog.globals[g]?).map (·.type) = some 113) : ∃ tp p, W.var? Tryz.prog n = some #[.iface tp p] := by
  obtain ⟨a, s, hv, _⟩ := laid_sentinel h hg ht Tryz.underlying113 errRow Tryz.underlying184 Tryz.underlying186 rfl rfl Tryz.underlying9 (by kernel_rfl) (by kernel_rfl)
  exact ⟨_, _, hv⟩
theorem rangG : Tryz.prog.globalNamed "strconv.ErrRange" = some ((Tryz.prog.globalNamed "strconv.ErrRange").getD 0) := by kernel_rfl
theorem syntG : Tryz.prog.globalNamed "strconv.ErrSyntax" = some ((Tryz.prog.globalNamed "strconv.ErrSyntax").getD 0) := by kernel_rfl
theorem rangT : (Tryz.prog.globals[(Tryz.prog.globalNamed "strconv.ErrRange").getD 0]?).map (·.type) = some 113 := by kernel_rfl
theorem syntT : (Tryz.prog.globals[(Tryz.prog.globalNamed "strconv.ErrSyntax").getD 0]?).map (·.type) = some 113 := by kernel_rfl
theorem errs_of {W : World} {a b c d : String × DataW Unit} {rest : List (String × DataW Unit)}
    (h : laidMet Tryz.prog (a :: b :: c :: d :: ("strconv.ErrRange", Rows.laid_strconv_ErrRange) :: ("strconv.ErrSyntax", Rows.laid_strconv_ErrSyntax) :: rest) W) :
    (∃ tp p, W.var? Tryz.prog "strconv.ErrSyntax" = some #[.iface tp p]) ∧ ∃ tp p, W.var? Tryz.prog "strconv.ErrRange" = some #[.iface tp p] :=
  ⟨sentVar h.tail.tail.tail.tail.tail syntG syntT, sentVar h.tail.tail.tail.tail rangG rangT⟩
theorem max_of {W : World} (h : W.ShapedOpen Tryz.prog) : ∃ m : Int, W.cell? ⟨(Tryz.prog.globalNamed "internal/bytealg.MaxLen").getD 0, 0, none⟩ = some (.int .i64 m) :=
  cell_of_shapedOpen_int (g := (Tryz.prog.globalNamed "internal/bytealg.MaxLen").getD 0) (t := 3) (zero := #[.int .i64 0]) h (of_decide_eq_true (by kernel_rfl)) (by kernel_rfl) rfl (by kernel_rfl) (by kernel_rfl) Tryz.underlying3
end Go.Proofs.YthopahcgbbkblaaGreatDoor
