/- Contracts of functions of the program (Gf). -/
import Derived.Test.YtcmpcpigchlhpaaEd
import Derived.Test.YtcmpcpigchlhpaaGa
import Derived.Test.YtcmpcpigchlhpaaRows
import Derived.WalkKit
import Derived.ProofKit
import Derived.OpenShut
import Derived.JoinedCond

namespace Go.Proofs.Ytcmpcpigchlhpaa
open Go.Av
set_option maxRecDepth 10000
set_option linter.unusedVariables false

theorem bulk_ok (H : Type) : Bulk (H := H) Rows.uptoBulk Rows.uptoBulkAll where
  str s := by simp only [Rows.uptoBulk]; omega
  sl e s := by simp only [Rows.uptoBulk]; omega
  ag p := by simp only [Rows.uptoBulk]; omega
  one d := by
    cases d with
    | lit l => cases l <;> simp [Rows.uptoBulk]
    | _ => simp [Rows.uptoBulk]
  cons d l := by simp only [Rows.uptoBulkAll]
theorem bulk_le {H : Type} {l : List (DataW H)} (hk : Rows.uptoSmall H l = true) : Rows.uptoBulkAll l ≤ lenMax := by
  have := of_decide_eq_true hk
  simp only [lenMax]
  omega
theorem own : ownKnob Try.prog.godebug = none := by kernel_rfl
theorem laidOut : laidOutB Try.prog = true := by kernel_rfl

def inI (n : Int) : Prop := -9223372036854775808 ≤ n ∧ n ≤ 9223372036854775807
theorem rInt_of {ds : List D} (h : RInt .i64 ds) : ∃ n, inI n ∧ ds = [.int .i64 n] := by
  obtain ⟨n, ⟨h1, h2⟩, rfl⟩ := h
  simp [IntKind.min, IntKind.max, IntKind.signed, IntKind.bits] at h1 h2
  exact ⟨n, ⟨by omega, by omega⟩, rfl⟩
theorem list_of {α : Type} {R : List D → Prop} {ag : Bool} (I : α → Prop) (f : α → D) (h : ∀ es, R es → ∃ a, I a ∧ mkE ag es = f a) {ds : List D} (hd : RSlice ag R ds) :
    ∃ xs : List α, (∀ x, x ∈ xs → I x) ∧ xs.length ≤ lenMax ∧ ds = [.slice (xs.map f) .no] := by
  obtain ⟨ess, h1, h2, rfl⟩ := hd
  have : ∀ l : List (List D), (∀ es, es ∈ l → R es) → ∃ xs : List α, (∀ x, x ∈ xs → I x) ∧ xs.length = l.length ∧ l.map (mkE ag) = xs.map f := by
    intro l
    induction l with
    | nil => exact fun _ => ⟨[], by simp, rfl, rfl⟩
    | cons e l ih =>
      intro hl
      obtain ⟨xs, i1, i2, i3⟩ := ih (fun x hx => hl x (List.mem_cons_of_mem _ hx))
      obtain ⟨a, a1, a2⟩ := h e (hl e List.mem_cons_self)
      exact ⟨a :: xs, by simpa using ⟨a1, i1⟩, by simp [i2], by simp [i3, a2]⟩
  obtain ⟨xs, x1, x2, x3⟩ := this ess h1
  exact ⟨xs, x1, by omega, by rw [x3]⟩

theorem tI : IsT Try.prog 3 (RInt .i64) := isT_int Try.underlying3
theorem tS : IsT Try.prog 9 RStr := isT_str Try.underlying9
theorem tIs : IsT Try.prog 31 (RSlice false (RInt .i64)) := isT_slice (sz := 1) Try.underlying31 (by kernel_rfl) (by decide) tI (fun _ es ⟨n, _, e⟩ => ⟨_, e, rfl⟩)
def rInts (xs : List Int) : Prop := (∀ x, x ∈ xs → inI x) ∧ xs.length ≤ lenMax
theorem ints_of {ds : List D} (h : RSlice false (RInt .i64) ds) : ∃ xs : List Int, rInts xs ∧ ds = [.slice (xs.map (.int .i64)) .no] := by
  obtain ⟨xs, h1, h2, h3⟩ := list_of inI (.int .i64) (fun es he => by
    obtain ⟨n, hn, rfl⟩ := rInt_of he
    exact ⟨n, hn, rfl⟩) h
  exact ⟨xs, ⟨h1, h2⟩, h3⟩

abbrev RHold : List D → Prop := RCat [RInt .i64, RInt .i64, RInt .i64]
theorem tH : IsT Try.prog 112 RHold := isT_struct Try.underlying112 (by kernel_rfl) (by kernel_rfl) ⟨tI, tI, tI, trivial⟩
def Hold.rng (h : Hold) : Prop := inI h.txn ∧ inI h.cls ∧ inI h.seats
theorem hold_of {ds : List D} (h : RHold ds) : ∃ x : Hold, x.rng ∧ ds = x.cs := by
  obtain ⟨_, _, h1, ⟨_, _, h2, ⟨_, _, h3, rfl, rfl⟩, rfl⟩, rfl⟩ := h
  obtain ⟨a, ha, rfl⟩ := rInt_of h1
  obtain ⟨b, hb, rfl⟩ := rInt_of h2
  obtain ⟨c, hc, rfl⟩ := rInt_of h3
  exact ⟨⟨a, b, c⟩, ⟨ha, hb, hc⟩, rfl⟩
theorem tHs : IsT Try.prog 57 (RSlice true RHold) := isT_slice (sz := 3) Try.underlying57 (by kernel_rfl) (by decide) tH (fun e => nomatch e)
def rHolds (xs : List Hold) : Prop := (∀ x, x ∈ xs → x.rng) ∧ xs.length ≤ lenMax
theorem holds_of {ds : List D} (h : RSlice true RHold ds) : ∃ xs : List Hold, rHolds xs ∧ ds = [.slice (xs.map Hold.d) .no] := by
  obtain ⟨xs, h1, h2, h3⟩ := list_of Hold.rng Hold.d (fun es he => by
    obtain ⟨x, hx, rfl⟩ := hold_of he
    exact ⟨x, hx, rfl⟩) h
  exact ⟨xs, ⟨h1, h2⟩, h3⟩

abbrev RLeg : List D → Prop := RCat [RStr, RStr, RStr, RInt .i64, RInt .i64, RInt .i64, RSlice false (RInt .i64), RSlice false (RInt .i64), RSlice false (RInt .i64), RSlice true RHold]
theorem tL : IsT Try.prog 59 RLeg :=
  isT_struct Try.underlying59 (by kernel_rfl) (by kernel_rfl) ⟨tS, tS, tS, tI, tI, tI, tIs, tIs, tIs, tHs, trivial⟩
structure Leg.rng (l : Leg) : Prop where
  dep : inI l.dep
  arr : inI l.arr
  cap : inI l.cap
  limits : rInts l.limits
  sold : rInts l.sold
  bids : rInts l.bids
  holds : rHolds l.holds
theorem leg_of {ds : List D} (h : RLeg ds) : ∃ l : Leg, l.rng ∧ ds = l.cs := by
  obtain ⟨_, _, ⟨a, rfl⟩, ⟨_, _, ⟨b, rfl⟩, ⟨_, _, ⟨c, rfl⟩, ⟨_, _, h4, ⟨_, _, h5, ⟨_, _, h6, ⟨_, _, h7, ⟨_, _, h8, ⟨_, _, h9, ⟨_, _, h10, rfl, rfl⟩, rfl⟩, rfl⟩, rfl⟩, rfl⟩, rfl⟩, rfl⟩, rfl⟩, rfl⟩, rfl⟩ := h
  obtain ⟨x4, r4, rfl⟩ := rInt_of h4
  obtain ⟨x5, r5, rfl⟩ := rInt_of h5
  obtain ⟨x6, r6, rfl⟩ := rInt_of h6
  obtain ⟨x7, r7, rfl⟩ := ints_of h7
  obtain ⟨x8, r8, rfl⟩ := ints_of h8
  obtain ⟨x9, r9, rfl⟩ := ints_of h9
  obtain ⟨x10, r10, rfl⟩ := holds_of h10
  exact ⟨⟨a, b, c, x4, x5, x6, x7, x8, x9, x10⟩, ⟨r4, r5, r6, r7, r8, r9, r10⟩, rfl⟩

theorem args1 {R : D → Prop} {xs : List D} (h : ArgsR [R] xs) : ∃ d, R d ∧ xs = [d] := by
  cases xs with
  | nil => exact h.elim
  | cons d xs => cases xs with
    | nil => exact ⟨d, h.1, rfl⟩
    | cons => exact h.2.elim
theorem args2 {R S : D → Prop} {xs : List D} (h : ArgsR [R, S] xs) : ∃ d e, R d ∧ S e ∧ xs = [d, e] := by
  cases xs with
  | nil => exact h.elim
  | cons d xs =>
    obtain ⟨e, he, rfl⟩ := args1 h.2
    exact ⟨d, e, h.1, he, rfl⟩
theorem args3 {R S T : D → Prop} {xs : List D} (h : ArgsR [R, S, T] xs) : ∃ d e f, R d ∧ S e ∧ T f ∧ xs = [d, e, f] := by
  cases xs with
  | nil => exact h.elim
  | cons d xs =>
    obtain ⟨e, f, he, hf, rfl⟩ := args2 h.2
    exact ⟨d, e, f, h.1, he, hf, rfl⟩
theorem args4 {R S T U : D → Prop} {xs : List D} (h : ArgsR [R, S, T, U] xs) : ∃ d e f g, R d ∧ S e ∧ T f ∧ U g ∧ xs = [d, e, f, g] := by
  cases xs with
  | nil => exact h.elim
  | cons d xs =>
    obtain ⟨e, f, g, he, hf, hg, rfl⟩ := args3 h.2
    exact ⟨d, e, f, g, h.1, he, hf, hg, rfl⟩

def isLeg (d : D) : Prop := ∃ l : Leg, l.rng ∧ d = l.d
def isInt (d : D) : Prop := ∃ n, inI n ∧ d = .int .i64 n
theorem aL : IsA Try.prog 59 isLeg := isA_struct Try.underlying59 tL (fun ds h => by
  obtain ⟨l, h1, rfl⟩ := leg_of h
  exact ⟨l, h1, rfl⟩)
def isHold (d : D) : Prop := ∃ o : Hold, o.rng ∧ d = o.d
theorem aH : IsA Try.prog 112 isHold := isA_struct Try.underlying112 tH (fun ds h => by
  obtain ⟨x, h1, rfl⟩ := hold_of h
  exact ⟨x, h1, rfl⟩)
theorem aI : IsA Try.prog 3 isInt := isA_int Try.underlying3 tI (fun ds h => by
  obtain ⟨n, h1, rfl⟩ := rInt_of h
  exact ⟨_, rfl, n, h1, rfl⟩)

theorem tLs : IsT Try.prog 36 (RSlice true RLeg) := isT_slice (sz := 10) Try.underlying36 (by kernel_rfl) (by decide) tL (fun e => nomatch e)
def isLegs (d : D) : Prop := ∃ net : List Leg, ((∀ l, l ∈ net → l.rng) ∧ net.length ≤ lenMax) ∧ d = .slice (net.map Leg.d) .no
theorem aLs : IsA Try.prog 36 isLegs := isA_slice Try.underlying36 tLs (fun ds h => by
  obtain ⟨xs, h1, h2, h3⟩ := list_of Leg.rng Leg.d (fun es he => by
    obtain ⟨x, hx, rfl⟩ := leg_of he
    exact ⟨x, hx, rfl⟩) h
  exact ⟨_, h3, xs, ⟨h1, h2⟩, rfl⟩)
def isStr (d : D) : Prop := ∃ s : List UInt8, True ∧ d = .str s
theorem aS : IsA Try.prog 9 isStr := isA_str Try.underlying9 tS (fun ds h => by
  obtain ⟨s, rfl⟩ := h
  exact ⟨_, rfl, s, trivial, rfl⟩)
theorem tU : IsT Try.prog 5 (RInt .u8) := isT_int Try.underlying5
theorem tB : IsT Try.prog 22 (RSlice false (RInt .u8)) := isT_slice (sz := 1) Try.underlying22 (by kernel_rfl) (by decide) tU (fun _ es ⟨n, _, e⟩ => ⟨_, e, rfl⟩)
def isBytes (d : D) : Prop := ∃ xs : List Int, ((∀ x, x ∈ xs → 0 ≤ x ∧ x ≤ 255) ∧ xs.length ≤ lenMax) ∧ d = .slice (xs.map (.int .u8)) .no
theorem aB : IsA Try.prog 22 isBytes := isA_slice Try.underlying22 tB (fun ds h => by
  obtain ⟨xs, h1, h2, h3⟩ := list_of (fun x => 0 ≤ x ∧ x ≤ 255) (.int .u8) (fun es he => by
    obtain ⟨n, ⟨h1, h2⟩, rfl⟩ := he
    simp [IntKind.min, IntKind.max, IntKind.signed, IntKind.bits] at h1 h2
    exact ⟨n, ⟨by omega, by omega⟩, rfl⟩) h
  exact ⟨_, h3, xs, ⟨h1, h2⟩, rfl⟩)
theorem tSs : IsT Try.prog 24 (RSlice false RStr) := isT_slice (sz := 1) Try.underlying24 (by kernel_rfl) (by decide) tS (fun _ es ⟨n, e⟩ => ⟨_, e, rfl⟩)
theorem strs_of {ds : List D} (h : RSlice false RStr ds) : ∃ xs : List (List UInt8), xs.length ≤ lenMax ∧ ds = [.slice (xs.map .str) .no] := by
  obtain ⟨xs, h1, h2, h3⟩ := list_of (fun _ => True) (.str) (fun es he => by
    obtain ⟨n, rfl⟩ := he
    exact ⟨n, trivial, rfl⟩) h
  exact ⟨xs, h2, h3⟩
end Go.Proofs.Ytcmpcpigchlhpaa

namespace Go.Proofs.Ytcmpcpigchlhpaa
set_option maxRecDepth 100000

def joinW : List (List Char) → List Char
  | [] => []
  | [w] => w
  | w :: ws => w ++ Char.ofNat 32 :: joinW ws
theorem ws_one : ∀ (w : List Char), (w.all fun c => !decide (c = Char.ofNat 32)) = true → wordsSigns w = [w]
  | [], _ => rfl
  | c :: w, h => by
    simp only [List.all_cons, Bool.and_eq_true, Bool.not_eq_true', decide_eq_false_iff_not] at h
    rw [wordsSigns.eq_3 _ _ h.1, ws_one w (by simpa using h.2)]
theorem ws_two : ∀ (w r : List Char), (w.all fun c => !decide (c = Char.ofNat 32)) = true → wordsSigns (w ++ Char.ofNat 32 :: r) = w :: wordsSigns r
  | [], r, _ => rfl
  | c :: w, r, h => by
    simp only [List.all_cons, Bool.and_eq_true, Bool.not_eq_true', decide_eq_false_iff_not] at h
    rw [List.cons_append, wordsSigns.eq_3 _ _ h.1, ws_two w r (by simpa using h.2)]
theorem ws_join : ∀ (ws : List (List Char)), (ws.all fun w => w.all fun c => !decide (c = Char.ofNat 32)) = true → ws ≠ [] → wordsSigns (joinW ws) = ws
  | [], _, h => absurd rfl h
  | [w], h, _ => ws_one w (by simpa using h)
  | w :: v :: ws, h, _ => by
    rw [List.all_cons, Bool.and_eq_true] at h
    show wordsSigns (w ++ Char.ofNat 32 :: joinW (v :: ws)) = _
    rw [ws_two w _ h.1, ws_join (v :: ws) h.2 (List.cons_ne_nil _ _)]
def ioW : List (List Char) := ([[104, 97, 114, 110, 101, 115, 115],
 [57, 57, 97, 102, 102, 98, 98, 49, 100, 54, 101, 49, 50, 49, 52, 50, 98, 100, 54, 51, 56, 51, 100, 57, 56, 101, 50, 53, 54, 53, 100, 101, 57, 50, 98, 48, 51, 52, 98, 54, 101, 54, 55, 99, 100, 55, 52, 50, 99, 100, 99, 101, 53, 98, 56, 53, 57, 52, 56, 100, 100, 100, 100, 50],
 [99, 117, 116],
 [97, 116],
 [108, 111, 111, 112, 46, 101, 120, 97, 109, 112, 108, 101, 47, 115, 116, 111, 112, 111, 118, 101, 114, 47, 108, 97, 119, 115, 46, 70, 110, 84, 114, 105, 112, 79, 107],
 [108, 111, 111, 112, 46, 101, 120, 97, 109, 112, 108, 101, 47, 115, 116, 111, 112, 111, 118, 101, 114, 47, 108, 97, 119, 115, 46, 70, 110, 69, 120, 97, 99, 116, 83, 104, 97, 114, 100, 78, 101, 119]] : List (List Nat)).map (List.map Char.ofNat)
theorem io : wordsSigns Try.prog.initOrder.toList = ioW := by
  have e : Try.prog.initOrder.toList = joinW ioW := (congrArg String.toList (show Try.prog.initOrder = String.ofList (joinW ioW) by kernel_rfl)).trans String.toList_ofList
  rw [e]
  exact ws_join ioW (by kernel_rfl) (by intro e; cases e)
theorem make_cut {P : Program} {c : List Char} {rest : List (List Char)} (h : behindMainWord (wordsSigns P.initOrder.toList) = c :: rest) (h1 : (c == "gc".toList || c == "spec".toList) = false) (h2 : (c == "cut".toList) = true) : P.make = some .cut := by
  unfold Program.make
  rw [h]
  simp only [h1, h2, Bool.true_or, if_true, Bool.false_eq_true, if_false]
theorem lift_cut {P : Program} {c : List Char} {rest : List (List Char)} (h : behindMainWord (wordsSigns P.initOrder.toList) = c :: rest) (h1 : (some c == some "carried".toList) = false) (h2 : (stripLifts liftWords (c :: rest)) = ([], c :: rest)) (h3 : ([].contains "finals") = false) : P.liftsFinal = false := by
  have e : P.headLifts = [] := by
    unfold Program.headLifts
    rw [h]
    simp only [h2]
    split <;> rfl
  unfold Program.liftsFinal
  rw [h, e]
  simp only [List.head?_cons, h1, Bool.false_and, Bool.false_or]
  exact h3
theorem enter_cut {P : Program} {c : List Char} {rest : List (List Char)} (h : behindMainWord (wordsSigns P.initOrder.toList) = c :: rest) (h1 : (c == "gc".toList || c == "spec".toList) = false) (h0 : (c == "carried".toList) = false) (h2 : (stripLifts liftWords (c :: rest)) = ([], c :: rest)) (h3 : (some c == some "cut".toList) = true) (h4 : P.laysLater = false) (h5 : P.bearsReflect = false) (h6 : P.doorFits [] = true) : P.mayEnter = true := by
  unfold Program.mayEnter
  rw [h]
  simp only [h0, h1, h2, h4, h5, h6, List.head?_cons, h3, Bool.not_false, Bool.or_true, Bool.false_and, Bool.false_or, Bool.and_true]
  rfl
theorem hd : behindMainWord (wordsSigns Try.prog.initOrder.toList) = [99, 117, 116].map Char.ofNat :: ioW.drop 3 := by
  rw [io]
  kernel_rfl
theorem entM : Try.prog.mayEnter = true := enter_cut hd (by kernel_rfl) (by kernel_rfl) (by kernel_rfl) (by kernel_rfl) (by kernel_rfl) (by kernel_rfl) (by kernel_rfl)
theorem entL : Try.prog.liftsFinal = false := lift_cut hd (by kernel_rfl) (by kernel_rfl) (by kernel_rfl)
theorem entK : Try.prog.make = some .cut := make_cut hd (by kernel_rfl) (by kernel_rfl)
end Go.Proofs.Ytcmpcpigchlhpaa
