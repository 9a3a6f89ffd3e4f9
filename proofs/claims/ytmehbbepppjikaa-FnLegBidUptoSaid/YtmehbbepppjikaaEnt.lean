/- Contracts of functions of the program (Ent). -/
import Derived.Test.YtmehbbepppjikaaArg
import Derived.WalkKit
import Derived.ProofKit
import Derived.OpenShut
import Derived.JoinedCond

namespace Go.Proofs.Ytmehbbepppjikaa
set_option maxRecDepth 100000

def joinW : List (List Char) → List Char
  | [] => []
  | [w] => w
  | w :: ws => w ++ Char.ofNat 32 :: joinW ws
theorem ws_one : ∀ (w : List Char), (w.all fun c => !decide (c = Char.ofNat 32)) = true → wordsSigns w = [w]
  | [], _ => rfl
  | c :: w, h => by
    simp only [List.all_cons, Bool.and_eq_true, Bool.not_eq_true', decide_eq_false_iff_not] at h
    rw [wordsSigns.eq_3 _ _ h.1, ws_one w (by simpa using h.2)]
theorem ws_two : ∀ (w r : List Char), (w.all fun c => !decide (c = Char.ofNat 32)) = true → wordsSigns (w ++ Char.ofNat 32 :: r) = w :: wordsSigns r
  | [], r, _ => rfl
  | c :: w, r, h => by
    simp only [List.all_cons, Bool.and_eq_true, Bool.not_eq_true', decide_eq_false_iff_not] at h
    rw [List.cons_append, wordsSigns.eq_3 _ _ h.1, ws_two w r (by simpa using h.2)]
theorem ws_join : ∀ (ws : List (List Char)), (ws.all fun w => w.all fun c => !decide (c = Char.ofNat 32)) = true → ws ≠ [] → wordsSigns (joinW ws) = ws
  | [], _, h => absurd rfl h
  | [w], h, _ => ws_one w (by simpa using h)
  | w :: v :: ws, h, _ => by
    rw [List.all_cons, Bool.and_eq_true] at h
    show wordsSigns (w ++ Char.ofNat 32 :: joinW (v :: ws)) = _
    rw [ws_two w _ h.1, ws_join (v :: ws) h.2 (List.cons_ne_nil _ _)]
def ioW : List (List Char) := ([[104, 97, 114, 110, 101, 115, 115],
 [51, 98, 57, 100, 51, 53, 102, 53, 50, 98, 50, 102, 54, 50, 98, 57, 50, 54, 98, 49, 100, 57, 49, 50, 48, 49, 48, 54, 100, 98, 97, 52, 48, 53, 51, 98, 51, 97, 98, 100, 50, 48, 48, 48, 99, 50, 56, 99, 102, 50, 98, 50, 56, 53, 48, 52, 57, 49, 54, 48, 57, 48, 102, 54],
 [99, 117, 116],
 [97, 116],
 [108, 111, 111, 112, 46, 101, 120, 97, 109, 112, 108, 101, 47, 115, 116, 111, 112, 111, 118, 101, 114, 47, 108, 97, 119, 115, 46, 70, 110, 69, 120, 97, 99, 116, 76, 101, 103, 79, 107],
 [108, 111, 111, 112, 46, 101, 120, 97, 109, 112, 108, 101, 47, 115, 116, 111, 112, 111, 118, 101, 114, 47, 108, 97, 119, 115, 46, 70, 110, 76, 101, 103, 82, 111, 111, 109],
 [108, 111, 111, 112, 46, 101, 120, 97, 109, 112, 108, 101, 47, 115, 116, 111, 112, 111, 118, 101, 114, 47, 108, 97, 119, 115, 46, 70, 110, 69, 120, 97, 99, 116, 76, 101, 103, 82, 111, 111, 109],
 [108, 111, 111, 112, 46, 101, 120, 97, 109, 112, 108, 101, 47, 115, 116, 111, 112, 111, 118, 101, 114, 47, 108, 97, 119, 115, 46, 70, 110, 69, 120, 97, 99, 116, 76, 101, 103, 66, 105, 100],
 [108, 111, 111, 112, 46, 101, 120, 97, 109, 112, 108, 101, 47, 115, 116, 111, 112, 111, 118, 101, 114, 47, 108, 97, 119, 115, 46, 70, 110, 84, 114, 105, 112, 76, 97, 116, 101, 114],
 [108, 111, 111, 112, 46, 101, 120, 97, 109, 112, 108, 101, 47, 115, 116, 111, 112, 111, 118, 101, 114, 47, 108, 97, 119, 115, 46, 70, 110, 69, 120, 97, 99, 116, 78, 101, 116, 79, 107],
 [108, 111, 111, 112, 46, 101, 120, 97, 109, 112, 108, 101, 47, 115, 116, 111, 112, 111, 118, 101, 114, 47, 108, 97, 119, 115, 46, 70, 110, 76, 101, 103, 75, 101, 101, 112],
 [108, 111, 111, 112, 46, 101, 120, 97, 109, 112, 108, 101, 47, 115, 116, 111, 112, 111, 118, 101, 114, 47, 108, 97, 119, 115, 46, 70, 110, 76, 101, 103, 68, 114, 111, 112],
 [108, 111, 111, 112, 46, 101, 120, 97, 109, 112, 108, 101, 47, 115, 116, 111, 112, 111, 118, 101, 114, 47, 108, 97, 119, 115, 46, 70, 110, 69, 120, 97, 99, 116, 76, 101, 103, 68, 114, 111, 112],
 [108, 111, 111, 112, 46, 101, 120, 97, 109, 112, 108, 101, 47, 115, 116, 111, 112, 111, 118, 101, 114, 47, 108, 97, 119, 115, 46, 70, 110, 69, 120, 97, 99, 116, 76, 101, 103, 75, 101, 101, 112],
 [108, 111, 111, 112, 46, 101, 120, 97, 109, 112, 108, 101, 47, 115, 116, 111, 112, 111, 118, 101, 114, 47, 108, 97, 119, 115, 46, 70, 110, 76, 101, 103, 66, 105, 100],
 [108, 111, 111, 112, 46, 101, 120, 97, 109, 112, 108, 101, 47, 115, 116, 111, 112, 111, 118, 101, 114, 47, 108, 97, 119, 115, 46, 70, 110, 69, 120, 97, 99, 116, 84, 114, 105, 112, 79, 107],
 [108, 111, 111, 112, 46, 101, 120, 97, 109, 112, 108, 101, 47, 115, 116, 111, 112, 111, 118, 101, 114, 47, 108, 97, 119, 115, 46, 70, 110, 69, 120, 97, 99, 116, 76, 101, 103, 72, 111, 108, 100],
 [108, 111, 111, 112, 46, 101, 120, 97, 109, 112, 108, 101, 47, 115, 116, 111, 112, 111, 118, 101, 114, 47, 108, 97, 119, 115, 46, 70, 110, 76, 101, 103, 72, 111, 108, 100],
 [108, 111, 111, 112, 46, 101, 120, 97, 109, 112, 108, 101, 47, 115, 116, 111, 112, 111, 118, 101, 114, 47, 108, 97, 119, 115, 46, 70, 110, 76, 101, 103, 84, 117, 114, 110],
 [108, 111, 111, 112, 46, 101, 120, 97, 109, 112, 108, 101, 47, 115, 116, 111, 112, 111, 118, 101, 114, 47, 108, 97, 119, 115, 46, 70, 110, 76, 101, 103, 87, 111, 114, 116, 104],
 [108, 111, 111, 112, 46, 101, 120, 97, 109, 112, 108, 101, 47, 115, 116, 111, 112, 111, 118, 101, 114, 47, 108, 97, 119, 115, 46, 70, 110, 69, 120, 97, 99, 116, 84, 114, 105, 112, 70, 105, 110, 100],
 [108, 111, 111, 112, 46, 101, 120, 97, 109, 112, 108, 101, 47, 115, 116, 111, 112, 111, 118, 101, 114, 47, 108, 97, 119, 115, 46, 70, 110, 84, 114, 105, 112, 79, 107]] : List (List Nat)).map (List.map Char.ofNat)
theorem io : wordsSigns Try.prog.initOrder.toList = ioW := by
  have e : Try.prog.initOrder.toList = joinW ioW := (congrArg String.toList (show Try.prog.initOrder = String.ofList (joinW ioW) by kernel_rfl)).trans String.toList_ofList
  rw [e]
  exact ws_join ioW (by kernel_rfl) (by intro e; cases e)
theorem make_cut {P : Program} {c : List Char} {rest : List (List Char)} (h : behindMainWord (wordsSigns P.initOrder.toList) = c :: rest) (h1 : (c == "gc".toList || c == "spec".toList) = false) (h2 : (c == "cut".toList) = true) : P.make = some .cut := by
  unfold Program.make
  rw [h]
  simp only [h1, h2, Bool.true_or, if_true, Bool.false_eq_true, if_false]
theorem lift_cut {P : Program} {c : List Char} {rest : List (List Char)} (h : behindMainWord (wordsSigns P.initOrder.toList) = c :: rest) (h1 : (some c == some "carried".toList) = false) (h2 : (stripLifts liftWords (c :: rest)) = ([], c :: rest)) (h3 : ([].contains "finals") = false) : P.liftsFinal = false := by
  have e : P.headLifts = [] := by
    unfold Program.headLifts
    rw [h]
    simp only [h2]
    split <;> rfl
  unfold Program.liftsFinal
  rw [h, e]
  simp only [List.head?_cons, h1, Bool.false_and, Bool.false_or]
  exact h3
theorem enter_cut {P : Program} {c : List Char} {rest : List (List Char)} (h : behindMainWord (wordsSigns P.initOrder.toList) = c :: rest) (h1 : (c == "gc".toList || c == "spec".toList) = false) (h0 : (c == "carried".toList) = false) (h2 : (stripLifts liftWords (c :: rest)) = ([], c :: rest)) (h3 : (some c == some "cut".toList) = true) (h4 : P.laysLater = false) (h5 : P.bearsReflect = false) (h6 : P.doorFits [] = true) : P.mayEnter = true := by
  unfold Program.mayEnter
  rw [h]
  simp only [h0, h1, h2, h4, h5, h6, List.head?_cons, h3, Bool.not_false, Bool.or_true, Bool.false_and, Bool.false_or, Bool.and_true]
  rfl
theorem hd : behindMainWord (wordsSigns Try.prog.initOrder.toList) = [99, 117, 116].map Char.ofNat :: ioW.drop 3 := by
  rw [io]
  kernel_rfl
theorem entM : Try.prog.mayEnter = true := enter_cut hd (by kernel_rfl) (by kernel_rfl) (by kernel_rfl) (by kernel_rfl) (by kernel_rfl) (by kernel_rfl) (by kernel_rfl)
theorem entL : Try.prog.liftsFinal = false := lift_cut hd (by kernel_rfl) (by kernel_rfl) (by kernel_rfl)
theorem entK : Try.prog.make = some .cut := make_cut hd (by kernel_rfl) (by kernel_rfl)
end Go.Proofs.Ytmehbbepppjikaa
