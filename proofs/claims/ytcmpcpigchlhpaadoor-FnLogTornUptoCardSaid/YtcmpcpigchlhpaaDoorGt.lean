/- What a transaction needs of legs ('ops'): its data, compared, copied, measured, checked. -/
import Derived.Test.YtcmpcpigchlhpaaDoorGe
import Derived.Test.YtcmpcpigchlhpaaDoorGu
import Derived.Test.YtcmpcpigchlhpaaDoorGf
import Derived.Test.YtcmpcpigchlhpaaDoorGs

namespace Go.Proofs.YtcmpcpigchlhpaaDoor
set_option linter.unusedSectionVars false
open Go.Av
variable [Av.Start]
set_option maxRecDepth 10000
set_option maxHeartbeats 1000000
set_option linter.unusedSimpArgs false
set_option linter.unusedVariables false

structure Opn where
  leg : List UInt8
  cls : Int
  seats : Int
  share : Int
instance : Inhabited Opn := ⟨⟨[], 0, 0, 0⟩⟩
def Opn.cs (o : Opn) : List D := [.str o.leg, .int .i64 o.cls, .int .i64 o.seats, .int .i64 o.share]
def Opn.d (o : Opn) : D := .agg o.cs
attribute [push_cast] Opn.cs Opn.d
theorem Opn.cl (n : Nat) (l : Opn) : ∀ d, d ∈ l.cs → Cl n d := by
  simp only [Opn.cs, List.mem_cons, List.not_mem_nil, or_false, forall_eq_or_imp, forall_eq, cl_int, cl_str, and_self]
theorem zOpn_cl (n : Nat) : ∀ d, d ∈ ([.str [], .int .i64 0, .int .i64 0, .int .i64 0] : List D) → Cl n d := by
  simp only [List.mem_cons, List.not_mem_nil, or_false, forall_eq_or_imp, forall_eq, cl_int, cl_str, and_self]
theorem op_at {xs : List Opn} {k : Nat} (h : k < xs.length) : (xs.map Opn.d).getD k (.agg [.str [], .int .i64 0, .int .i64 0, .int .i64 0]) = .agg (xs.getD k default).cs := getD_at default h
theorem allSz_ops (xs : List Opn) : AllSz 4 (xs.map Opn.d) ↔ True := allSz_map 4 _ xs (fun _ => rfl)
attribute [push_cast] allSz_ops
def eqOpB (a b : Opn) : Bool := decide (a.leg = b.leg) && decide (a.cls = b.cls) && decide (a.seats = b.seats) && decide (a.share = b.share)
theorem eqOpB_self (a : Opn) : eqOpB a a = true := by simp [eqOpB]
def szO (n : Int) (l : Opn) : Int := szGo n [l.leg.length]
def szOs : Int → List Opn → Int
  | n, [] => n
  | n, l :: ls => if szO n l < 0 then -1 else szOs (szO n l) ls
theorem szOs_drop (n : Int) {net : List Opn} {k : Nat} (h : k < net.length) : szOs n (net.drop k) = if szO n (net.getD k default) < 0 then -1 else szOs (szO n (net.getD k default)) (net.drop (k + 1)) := by
  rw [List.drop_eq_getElem_cons h, szOs, List.getD_eq_getElem?_getD, List.getElem?_eq_getElem h]
  rfl
/-- an op that is ok but for its leg -/
def opAtB (xs : List Opn) (i : Nat) : Bool := inB (xs.getD i default).cls 0 2 && inB (xs.getD i default).seats (-4) 4 && !decide ((xs.getD i default).seats = 0) && inB (xs.getD i default).share 0 1000000000000
def opNames (xs : List Opn) : List (List UInt8) := xs.map Opn.leg
def opsB (xs : List Opn) : Bool := inB xs.length 1 3 && allB xs.length (opAtB xs) && allB (opNames xs).length (unlikeAt (opNames xs))
theorem opNames_len (xs : List Opn) : (opNames xs).length = xs.length := List.length_map _
theorem opNames_get {xs : List Opn} {k : Nat} (h : k < xs.length) : (opNames xs).getD k [] = (xs.getD k default).leg := by
  rw [opNames, List.getD_eq_getElem?_getD, List.getElem?_map, List.getD_eq_getElem?_getD, List.getElem?_eq_getElem h]
  rfl
end Go.Proofs.YtcmpcpigchlhpaaDoor

namespace Go.Proofs.YtcmpcpigchlhpaaDoor
open Go.Av
set_option maxRecDepth 10000
set_option linter.unusedVariables false

abbrev ROp : List D → Prop := RCat [RStr, RInt .i64, RInt .i64, RInt .i64]
structure Opn.rng (o : Opn) : Prop where
  cls : inI o.cls
  seats : inI o.seats
  share : inI o.share
theorem op_of {ds : List D} (h : ROp ds) : ∃ o : Opn, o.rng ∧ ds = o.cs := by
  obtain ⟨_, _, ⟨a, rfl⟩, ⟨_, _, h2, ⟨_, _, h3, ⟨_, _, h4, rfl, rfl⟩, rfl⟩, rfl⟩, rfl⟩ := h
  obtain ⟨x2, r2, rfl⟩ := rInt_of h2
  obtain ⟨x3, r3, rfl⟩ := rInt_of h3
  obtain ⟨x4, r4, rfl⟩ := rInt_of h4
  exact ⟨⟨a, x2, x3, x4⟩, ⟨r2, r3, r4⟩, rfl⟩
def isOps (d : D) : Prop := ∃ xs : List Opn, ((∀ o, o ∈ xs → o.rng) ∧ xs.length ≤ lenMax) ∧ d = .slice (xs.map Opn.d) .no
end Go.Proofs.YtcmpcpigchlhpaaDoor

/- Ops as a text, on both sides. -/
namespace Go.Proofs.YtcmpcpigchlhpaaDoor
set_option linter.unusedSectionVars false
open Go.Av
variable [Av.Start] [TabPow]
set_option maxRecDepth 10000
set_option maxHeartbeats 1000000
set_option linter.unusedSimpArgs false
set_option linter.unusedVariables false

/-- an op as a text -/
def opT (o : Opn) : List UInt8 := o.leg ++ 58 :: (Lib.itoa o.cls ++ 58 :: (Lib.itoa o.seats ++ 58 :: Lib.itoa o.share))
def opsT (xs : List Opn) : List UInt8 := joinC 44 (xs.map opT)
structure Opn.Small (o : Opn) : Prop where
  leg : o.leg.length ≤ 8
  cls : inI o.cls
  seats : inI o.seats
  share : inI o.share
omit [TabPow] in
theorem Opn.Small.len {o : Opn} (h : o.Small) : (opT o).length ≤ 80 := by
  have h1 := Lib.itoa_length_le _ h.cls.1 h.cls.2
  have h2 := Lib.itoa_length_le _ h.seats.1 h.seats.2
  have h3 := Lib.itoa_length_le _ h.share.1 h.share.2
  have h4 := h.leg
  simp only [opT, List.length_append, List.length_cons]
  omega
omit [TabPow] in
theorem opsT_len : ∀ (xs : List Opn), (∀ x, x ∈ xs → x.Small) → (opsT xs).length ≤ 81 * xs.length
  | [], _ => Nat.le_refl _
  | [x], h => by
    have := (h x (by simp)).len
    show (opT x).length ≤ _
    simp only [List.length_cons, List.length_nil]
    omega
  | x :: y :: ys, h => by
    have h1 := (h x (by simp)).len
    have h2 := opsT_len (y :: ys) (fun z hz => h z (List.mem_cons_of_mem _ hz))
    have e : opsT (x :: y :: ys) = opT x ++ 44 :: opsT (y :: ys) := rfl
    rw [e, List.length_append, List.length_cons]
    simp only [List.length_cons] at h2 ⊢
    omega
omit [TabPow] in
theorem opsT_snoc (xs : List Opn) (n : Opn) (h : xs ≠ []) : opsT (xs ++ [n]) = opsT xs ++ 44 :: opT n := by
  induction xs with
  | nil => exact absurd rfl h
  | cons x xs ih =>
    cases xs with
    | nil => rfl
    | cons y ys =>
      have := ih (by simp)
      simp only [opsT, List.map_cons, List.cons_append, joinC] at this ⊢
      rw [this, List.append_assoc]
      rfl
omit [TabPow] in
theorem ops_small {xs : List Opn} (hb : opsB xs = true) : xs.length ≤ 3 ∧ ∀ x, x ∈ xs → x.Small := by
  simp only [opsB, Bool.and_eq_true] at hb
  obtain ⟨⟨h1, h2⟩, h3⟩ := hb
  have hl := inB_iff.1 h1
  rw [allB_iff] at h2 h3
  refine ⟨by omega, (all_getD (d := default)).1 fun i hi => ?_⟩
  have a := h2 i hi
  have b := h3 i (by rw [opNames_len]; exact hi)
  rw [unlikeAt, opNames_get hi, Bool.and_eq_true] at b
  simp only [opAtB, Bool.and_eq_true] at a
  obtain ⟨⟨⟨a1, a2⟩, a3⟩, a4⟩ := a
  have a1 := inB_iff.1 a1
  have a2 := inB_iff.1 a2
  have a4 := inB_iff.1 a4
  exact ⟨(nameB_len b.1).2, ⟨by omega, by omega⟩, ⟨by omega, by omega⟩, ⟨by omega, by omega⟩⟩
end Go.Proofs.YtcmpcpigchlhpaaDoor
