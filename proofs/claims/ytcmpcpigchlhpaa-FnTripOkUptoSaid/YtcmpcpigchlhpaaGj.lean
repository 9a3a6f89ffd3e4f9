/- Contracts of functions of the program (Gj). -/
import Derived.Test.YtcmpcpigchlhpaaGi

namespace Go.Proofs.Ytcmpcpigchlhpaa
set_option linter.unusedSectionVars false
open Go.Av
variable [Av.Start]
set_option maxRecDepth 10000
set_option maxHeartbeats 1000000
set_option linter.unusedSimpArgs false
set_option linter.unusedVariables false

omit [Av.Start] in
theorem finS_of {P : Program} {rs : List ResultVar} {h hh : Hp} {Q : D → Hp → Prop} {d : D} {st : St} (hQ : Q d hh) (k : finS P rs h (fun d' h' => d' = d ∧ h' = hh) st) : finS P rs h Q st := by
  obtain ⟨h1, d0, d', h', h0, h2, h3, h4, rfl, rfl⟩ := k
  exact ⟨h1, d0, _, _, h0, h2, h3, h4, hQ⟩
attribute [local irreducible] finS
theorem Meets.weak {P : Program} {f : FuncId} {args : List D} {h : Hp} {Q Q' : D → Hp → Prop} (H : Meets P f args h Q) (k : ∀ d' h', Q d' h' → Q' d' h') : Meets P f args h Q' :=
  ⟨H.1, fun w σ vs hi hr => (H.2 w σ vs hi hr).mono fun e w' ⟨v, he, d, h', σ', hq, x⟩ => ⟨v, he, d, h', σ', k _ _ hq, x⟩⟩
theorem callE {P : Program} {mu : List Nat} {ops rest : List Oper} {dst : Option Tmp} {fr : Fr} {h : Hp} {K : St → Prop} {f : FuncId} {ys : List D} {Q : D → Hp → Prop} (c : Meets P f ys h Q) (k : ∀ d' h', Q d' h' → evOps P mu ops rest ⟨putO fr dst d', h'⟩ K) : CallSt P mu ops rest dst fr h K f ys :=
  call_meets c (wkL_same ys) k
omit [Av.Start] in
theorem Rd.up {bs : List Int} {p p' : Int} (H : Rd bs p) (h1 : 0 ≤ p') (h2 : p' ≤ 1000000000) : Rd bs p' := ⟨H.byte, H.len, h1, h2⟩
omit [Av.Start] in
theorem ob_get {h h' : Hp} {r : Nat} (e : h'[r]? = h[r]?) : ob h' r = ob h r := by simp only [ob, List.getD_eq_getElem?_getD, e]
omit [Av.Start] in
/-- what stands where, when object r has turned -/
theorem rdf {h : Hp} {r : Nat} (hrl : r < h.length) : (∀ x ls, (h ++ ls).set r x = h.set r x ++ ls) ∧ (∀ x y ls, (h.set r x ++ ls).set r y = h.set r y ++ ls) ∧ (∀ x ls, ob (h.set r x ++ ls) r = x) ∧ (∀ ls, ob (h ++ ls) r = ob h r) ∧
    (∀ x ls k, ob (h.set r x ++ ls) (h.length + k) = ob ls k) ∧ (∀ x ls, ob (h.set r x ++ ls) h.length = ob ls 0) ∧ (∀ x ls k y, (h.set r x ++ ls).set (h.length + k) y = h.set r x ++ ls.set k y) ∧ (∀ x ls y, (h.set r x ++ ls).set h.length y = h.set r x ++ ls.set 0 y) ∧ (∀ x, ob (h.set r x) r = x) := by
  refine ⟨fun x ls => List.set_append_left _ _ hrl, fun x y ls => ?_, fun x ls => ?_, fun ls => ob_app_l hrl ls, fun x ls k => ?_, fun x ls => ?_, fun x ls k y => ?_, fun x ls y => ?_, fun x => ?_⟩
  · rw [List.set_append_left _ _ (by simpa using hrl), List.set_set]
  · rw [ob_app_l (by simpa using hrl), ob_set_eq hrl]
  · have := ob_app (h.set r x) ls k
    rwa [List.length_set] at this
  · have := ob_app0 (h.set r x) ls
    rwa [List.length_set] at this
  · have := set_app (h.set r x) ls k y
    rwa [List.length_set] at this
  · have := set_app0 (h.set r x) ls y
    rwa [List.length_set] at this
  · exact ob_set_eq hrl x
omit [Av.Start] in
theorem rdC_cl (bs : List Int) (p : Int) (n : Nat) : ∀ d, d ∈ rdC bs p → Cl n d := by
  intro d hd
  simp only [rdC, List.mem_cons, List.not_mem_nil, or_false] at hd
  rcases hd with rfl | rfl
  · exact .slice _ _ (fun _ _ e => nomatch e)
  · exact .int _ _
omit [Av.Start] in
theorem back_rd {h : Hp} {r : Nat} (hrl : r < h.length) (bs : List Int) (p : Int) (junk : Hp) : Back h (h.set r (.row (rdC bs p)) ++ junk) (h.set r (.row (rdC bs p))) :=
  back_pre (by simp) (old_set (old_id h _) _ (rdC_cl _ _ _))
theorem l1Open_gives (bs : List Int) (h : Hp) : Meets Try.prog 19 [.slice (bs.map (.int .u8)) .no] h fun d' h' => d' = .ptr h.length 0 ∧ h' = h ++ [.row (rdC (bs.take 2000) 0)] := by
  refine meets_of [] mixed Try.func19 rfl (by kernel_rfl) (by kernel_rfl) (by rw [Try.ntmps19]; simp only [List.length_cons, List.length_nil]; omega) (fun hf => ?_)
  rw [Try.results19]
  clear hf
  try simp -implicitDefEqProofs only [rdC, push_cast, Nat.reduceEqDiff, Nat.reduceBEq, Nat.reduceBNe, Nat.reduceAdd, Nat.reduceMul, Nat.reduceLT, Nat.reduceLeDiff, Nat.reduceSub, reduceCtorEq, Int.reduceToNat, ↓reduceIte]
  repeat'
    (first
     | (refine uYes ?_; first | exact List.mem_cons_self | (simp only [List.mem_cons, List.not_mem_nil, or_false, true_or, or_true]; done))
     | (refine uNo (by kernel_rfl))
     | (refine flatMk ?_; kernel_rfl)
     | (refine And.intro ?_ ?_)
     | (intro hx)
     | ((first
         | (refine callGF ?_)
         | (refine callQGF ?_)
         | (refine skipG ?_)
         | (refine callS (in_gives _ _ _ _) ?_)
         | (refine callQ (in_gives _ _ _ _) ?_)
         | (refine callG (fun hc => (in_gives _ _ _ _)) ?_)
         | (refine callQG (fun hc => (in_gives _ _ _ _)) ?_)); simp -implicitDefEqProofs only [rdC, push_cast, Nat.reduceEqDiff, Nat.reduceBEq, Nat.reduceBNe, Nat.reduceAdd, Nat.reduceMul, Nat.reduceLT, Nat.reduceLeDiff, Nat.reduceSub, reduceCtorEq, Int.reduceToNat, ↓reduceIte]))
  all_goals first
    | omega
    | (rw [List.take_of_length_le (by omega)])
theorem of_gives (bs : List Int) (p : Int) (ss : List (List UInt8)) (t : Tok) (r : Nat) (h : Hp) (hr : ob h r = .row (rdC bs p)) (hrl : r < h.length) (H : Rd bs p) (hs : 1 ≤ ss.length) :
    Meets Try.prog 49 [.ptr r 0, .slice (ss.map .str) t] h fun d' h' => d' = .str (ss.getD (pickV bs p ss.length).toNat []) ∧ h' = h.set r (.row (rdC bs (p + 1))) := by
  have hv := pickV_range H ss.length (by omega)
  refine meets_of [] mixed Try.func49 rfl (by kernel_rfl) (by kernel_rfl) (by rw [Try.ntmps49]; simp only [List.length_cons, List.length_nil]; omega) (fun hf => ?_)
  rw [Try.results49]
  clear hf
  try simp -implicitDefEqProofs only [push_cast, Nat.reduceEqDiff, Nat.reduceBEq, Nat.reduceBNe, Nat.reduceAdd, Nat.reduceMul, Nat.reduceLT, Nat.reduceLeDiff, Nat.reduceSub, reduceCtorEq, Int.reduceToNat, ↓reduceIte]
  repeat'
    (first
     | (refine uYes ?_; first | exact List.mem_cons_self | (simp only [List.mem_cons, List.not_mem_nil, or_false, true_or, or_true]; done))
     | (refine uNo (by kernel_rfl))
     | (refine flatMk ?_; kernel_rfl)
     | (refine And.intro ?_ ?_)
     | (intro hx)
     | ((first
         | (refine callGF ?_)
         | (refine callQGF ?_)
         | (refine skipG ?_)
         | (refine callM (pick_gives bs p ss.length r _ hr hrl H) ?_)); simp -implicitDefEqProofs only [push_cast, Nat.reduceEqDiff, Nat.reduceBEq, Nat.reduceBNe, Nat.reduceAdd, Nat.reduceMul, Nat.reduceLT, Nat.reduceLeDiff, Nat.reduceSub, reduceCtorEq, Int.reduceToNat, ↓reduceIte]))
  all_goals first
    | omega
    | exact back_set rfl hrl (rdC_cl _ _ _)

/-- one, two or three numbers: a list that is built by append -/
inductive Lms where
  | one (a : Int)
  | two (a b : Int)
  | three (a b c : Int)
def Lms.n : Lms → Int
  | .one _ => 1
  | .two _ _ => 2
  | .three _ _ _ => 3
def Lms.xs : Lms → List Int
  | .one a => [a]
  | .two a b => [a, b]
  | .three a b c => [a, b, c]
def Lms.d (s : Lms) (k : Nat) : D :=
  match s with
  | .one a => .slice [.int .i64 a] .full
  | .two a b => .slice [.int .i64 a, .int .i64 b] (.buf k 1)
  | .three a b c => .slice [.int .i64 a, .int .i64 b, .int .i64 c] (.buf k 1)
def Lms.bufs : Lms → Hp
  | .one _ => []
  | .two _ _ => [.buf 2]
  | .three _ _ _ => [.buf 3]
/-- limits: falling, none below nothing, the first is this -/
def Lms.Lim (s : Lms) (m : Int) : Prop :=
  match s with
  | .one a => a = m
  | .two a b => a = m ∧ 0 ≤ b ∧ b ≤ a
  | .three a b c => a = m ∧ 0 ≤ b ∧ b ≤ a ∧ 0 ≤ c ∧ c ≤ b
def zeroLeg : Ob := .row [.str [], .str [], .str [], .int .i64 0, .int .i64 0, .int .i64 0, .slice [] .full, .slice [] .full, .slice [] .full, .slice [] .full]
def legRow (nm src dst : List UInt8) (dep arr cap : Int) (lim bids : D) : Ob := .row [.str nm, .str src, .str dst, .int .i64 dep, .int .i64 arr, .int .i64 cap, lim, .slice [.int .i64 0, .int .i64 0, .int .i64 0] .full, bids, .slice [] .full]
omit [Av.Start] in
theorem Lms.d_cl (s : Lms) {k N : Nat} (h : k < N ∨ s.bufs = []) : Cl N (s.d k) := by
  cases s with
  | one a => exact .slice _ _ (fun _ _ e => nomatch e)
  | two a b => exact .slice _ _ (fun _ _ e => by cases e; exact h.resolve_right (by simp [Lms.bufs]))
  | three a b c => exact .slice _ _ (fun _ _ e => by cases e; exact h.resolve_right (by simp [Lms.bufs]))
omit [Av.Start] in
theorem legRows_cl {N k k' : Nat} (nm src dst : List UInt8) (dep arr cap : Int) (A B : Lms) (hA : k < N ∨ A.bufs = []) (hB : k' < N ∨ B.bufs = []) : ∀ x, x ∈ [zeroLeg, legRow nm src dst dep arr cap (A.d k) (B.d k')] ++ (A.bufs ++ B.bufs) → ObCl N x := by
  intro x hx
  rcases List.mem_append.1 hx with hx | hx
  · simp only [List.mem_cons, List.not_mem_nil, or_false] at hx
    rcases hx with rfl | rfl
    · intro d hd
      simp only [List.mem_cons, List.not_mem_nil, or_false] at hd
      rcases hd with rfl | rfl | rfl | rfl | rfl | rfl | rfl | rfl | rfl | rfl
      all_goals first
        | exact .str _
        | exact .int _ _
        | exact .slice _ _ (fun _ _ e => nomatch e)
    · intro d hd
      simp only [List.mem_cons, List.not_mem_nil, or_false] at hd
      rcases hd with rfl | rfl | rfl | rfl | rfl | rfl | rfl | rfl | rfl | rfl
      all_goals first
        | exact .str _
        | exact .int _ _
        | exact .slice _ _ (fun _ _ e => nomatch e)
        | exact A.d_cl hA
        | exact B.d_cl hB
  · rcases List.mem_append.1 hx with hx | hx
    · cases A with
      | one a => cases hx
      | two a b => rcases List.mem_singleton.1 hx with rfl; trivial
      | three a b c => rcases List.mem_singleton.1 hx with rfl; trivial
    · cases B with
      | one a => cases hx
      | two a b => rcases List.mem_singleton.1 hx with rfl; trivial
      | three a b c => rcases List.mem_singleton.1 hx with rfl; trivial
omit [Av.Start] in
theorem quo10 {b v : Int} (hb : 0 ≤ b) (hv : 0 ≤ v) (h9 : v ≤ 9) : 0 ≤ b * v ∧ b * v ≤ 9 * b ∧ 0 ≤ (b * v).tdiv 10 ∧ (b * v).tdiv 10 ≤ b := by
  have h1 : 0 ≤ b * v := Int.mul_nonneg hb hv
  have h2 : b * v ≤ b * 9 := Int.mul_le_mul_of_nonneg_left h9 hb
  rw [Int.tdiv_eq_ediv_of_nonneg h1]
  omega
def mkL (nm src dst : List UInt8) (dep arr cap : Int) (A B : Lms) : Leg := ⟨nm, src, dst, dep, arr, cap, A.xs, [0, 0, 0], B.xs, []⟩
omit [Av.Start] in
theorem mkL_ok {nm src dst : List UInt8} {dep arr cap a b c b0 : Int} {B : Lms} (hn : nameB nm = true) (hs : nameB src = true) (hd : nameB dst = true) (hne : src ≠ dst) (h0 : 0 ≤ dep) (h1 : dep + 1 ≤ arr) (h2 : arr ≤ 9999) (h3 : 1 ≤ cap) (h4 : cap ≤ 6) (ha : a = cap) (hA : 0 ≤ b ∧ b ≤ a ∧ 0 ≤ c ∧ c ≤ b) (hB : B.Lim b0) (hb : 0 ≤ b0) (hb' : b0 ≤ 899) : LegP (mkL nm src dst dep arr cap (.three a b c) B) := by
  refine ⟨hn, hs, hd, hne, ⟨h0, by show dep ≤ 9999; omega⟩, ⟨h1, h2⟩, ⟨h3, by show cap ≤ 9; omega⟩, rfl, ?_, ?_, ha, rfl, ?_, ?_, ?_, ?_, by show 0 ≤ 6; omega, ?_, ?_, ?_, ?_⟩
  · intro i hi
    match i, hi with
    | 0, _ => show 0 ≤ a ∧ a ≤ cap; omega
    | 1, _ => show 0 ≤ b ∧ b ≤ cap; omega
    | 2, _ => show 0 ≤ c ∧ c ≤ cap; omega
  · intro i hi hi0
    match i, hi, hi0 with
    | 1, _, _ => show b ≤ a; omega
    | 2, _, _ => show c ≤ b; omega
  · intro x hx
    have : x ∈ [(0 : Int), 0, 0] := hx
    simp only [List.mem_cons, List.not_mem_nil, or_false] at this
    show 0 ≤ x ∧ x ≤ cap
    omega
  · cases B <;> (show 1 ≤ _ ∧ _ ≤ 4; simp [mkL, Lms.xs])
  · intro i hi
    cases B with
    | one x =>
      match i, hi with
      | 0, _ => show 0 ≤ x ∧ x ≤ 1000000000; simp only [Lms.Lim] at hB; omega
      | i + 1, hi => have hi' : i + 1 < 1 := hi; omega
    | two x y =>
      simp only [Lms.Lim] at hB
      match i, hi with
      | 0, _ => show 0 ≤ x ∧ x ≤ 1000000000; omega
      | 1, _ => show 0 ≤ y ∧ y ≤ 1000000000; omega
      | i + 2, hi => have hi' : i + 2 < 2 := hi; omega
    | three x y z =>
      simp only [Lms.Lim] at hB
      match i, hi with
      | 0, _ => show 0 ≤ x ∧ x ≤ 1000000000; omega
      | 1, _ => show 0 ≤ y ∧ y ≤ 1000000000; omega
      | 2, _ => show 0 ≤ z ∧ z ≤ 1000000000; omega
      | i + 3, hi => have hi' : i + 3 < 3 := hi; omega
  · intro i hi hi0
    cases B with
    | one x =>
      match i, hi, hi0 with
      | i + 1, hi, _ => have hi' : i + 1 < 1 := hi; omega
    | two x y =>
      simp only [Lms.Lim] at hB
      match i, hi, hi0 with
      | 1, _, _ => show y ≤ x; omega
      | i + 2, hi, _ => have hi' : i + 2 < 2 := hi; omega
    | three x y z =>
      simp only [Lms.Lim] at hB
      match i, hi, hi0 with
      | 1, _, _ => show y ≤ x; omega
      | 2, _, _ => show z ≤ y; omega
      | i + 3, hi, _ => have hi' : i + 3 < 3 := hi; omega
  · intro i hi
    exact absurd hi (Nat.not_lt_zero i)
  · intro i hi
    exact absurd hi (Nat.not_lt_zero i)
  · intro i hi
    have e : usedV (mkL nm src dst dep arr cap (.three a b c) B) i = 0 := by
      match i, hi with
      | 0, _ => rfl
      | 1, _ => rfl
      | 2, _ => rfl
    rw [e]
    match i, hi with
    | 0, _ => show 0 ≤ a; omega
    | 1, _ => show 0 ≤ b; omega
    | 2, _ => show 0 ≤ c; omega
  · intro i hi
    match i, hi with
    | 0, _ => exact Int.le_refl 0
    | 1, _ => exact Int.le_refl 0
    | 2, _ => exact Int.le_refl 0
def limB (bs : List Int) (a q : Int) : Int := if a - pickV bs q 3 < 0 then 0 else a - pickV bs q 3
def bidN (bs : List Int) (x u : Int) : Int := (x * pickV bs u 10).tdiv 10
def Lms.ExL (s : Lms) (bs : List Int) (cap q : Int) : Prop :=
  match s with
  | .one _ => True
  | .two _ b => b = limB bs cap q
  | .three _ b c => b = limB bs cap q ∧ c = limB bs b (q + 1)
def Lms.ExB (s : Lms) (bs : List Int) (b0 u : Int) : Prop :=
  match s with
  | .one x => x = b0
  | .two x y => x = b0 ∧ y = bidN bs b0 u
  | .three x y z => x = b0 ∧ y = bidN bs b0 u ∧ z = bidN bs y (u + 1)
def bidL (bs : List Int) (b0 n u : Int) : Lms := if n ≤ 0 then .one b0 else if n ≤ 1 then .two b0 (bidN bs b0 u) else .three b0 (bidN bs b0 u) (bidN bs (bidN bs b0 u) (u + 1))
/-- the leg that l14Leg draws at a place, and the place behind it -/
def legV (bs : List Int) (p : Int) (nm src dst : List UInt8) (dep : Int) : Leg × Int :=
  (mkL nm src dst dep (dep + 1 + pickV bs (p + 1) 6) (1 + pickV bs p 6)
    (.three (1 + pickV bs p 6) (limB bs (1 + pickV bs p 6) (p + 4)) (limB bs (limB bs (1 + pickV bs p 6) (p + 4)) (p + 4 + 1)))
    (bidL bs ([0, 0, pickV bs (p + 1 + 1) 900].getD (pickV bs (p + 1 + 1 + 1) 3).toNat 0) (pickV bs (p + 6) 3) (p + 7)), p + 7 + pickV bs (p + 6) 3)
omit [Av.Start] in
theorem legV_eq {bs : List Int} {p dep a b c b0 u : Int} {nm src dst : List UInt8} {B : Lms} (ha : a = 1 + pickV bs p 6) (hE : (Lms.three a b c).ExL bs (1 + pickV bs p 6) (p + 4)) (hb0 : b0 = [0, 0, pickV bs (p + 1 + 1) 900].getD (pickV bs (p + 1 + 1 + 1) 3).toNat 0) (hB : B = bidL bs b0 (pickV bs (p + 6) 3) (p + 7)) (hu : u = p + 7 + pickV bs (p + 6) 3) :
    legV bs p nm src dst dep = (mkL nm src dst dep (dep + 1 + pickV bs (p + 1) 6) (1 + pickV bs p 6) (.three a b c) B, u) := by
  obtain ⟨e1, e2⟩ := hE
  rw [legV, hB, hu, e2, e1, ha, hb0]
theorem l14Leg_gives (bs : List Int) (p : Int) (nm src dst : List UInt8) (dep : Int) (r : Nat) (h : Hp) (hr : ob h r = .row (rdC bs p)) (hrl : r < h.length) (H : Rd bs (p + 100)) (hp0 : 0 ≤ p) (hn : nameB nm = true) (hs : nameB src = true) (hd : nameB dst = true) (hne : src ≠ dst) (h0 : 0 ≤ dep) (h1 : dep ≤ 1000) :
    Meets Try.prog 80 [.ptr r 0, .str nm, .str src, .str dst, .int .i64 dep] h fun d' h' => d' = (legV bs p nm src dst dep).1.d ∧ h' = h.set r (.row (rdC bs (legV bs p nm src dst dep).2)) := by
  refine Meets.weak (Q := fun d' h' => ∃ l p', legV bs p nm src dst dep = (l, p') ∧ d' = l.d ∧ h' = h.set r (.row (rdC bs p'))) ?_ (fun d' h' ⟨l, p', e, e1, e2⟩ => by rw [e]; exact ⟨e1, e2⟩)
  have hhi := H.hi
  obtain ⟨r1, r2, r3, r4, r5, r6, r7, r8, r9⟩ := rdf hrl
  refine meets_of [1000006] mixed Try.func80 rfl (by kernel_rfl) (by kernel_rfl) (by rw [Try.ntmps80]; simp only [List.length_cons, List.length_nil]; omega) (fun hf => ?_)
  rw [Try.results80]
  clear hf
  have v1 := pickV_range (p := p) (H.up (by omega) (by omega)) 6 (by omega)
  have v2 := pickV_range (p := p + 1) (H.up (by omega) (by omega)) 6 (by omega)
  have v3 := pickV_range (p := p + 1 + 1) (H.up (by omega) (by omega)) 900 (by omega)
  have v4 := pickV_range (p := p + 1 + 1 + 1) (H.up (by omega) (by omega)) 3 (by omega)
  have w1 : IntKind.i64.wrap (1 + pickV bs p 6) = 1 + pickV bs p 6 := wrap_id (by omega) (by omega)
  have w2 : IntKind.i64.wrap (dep + 1) = dep + 1 := wrap_id (by omega) (by omega)
  have w3 : IntKind.i64.wrap (dep + 1 + pickV bs (p + 1) 6) = dep + 1 + pickV bs (p + 1) 6 := wrap_id (by omega) (by omega)
  obtain ⟨b0, hb0', hb0, hb1, hb2⟩ : ∃ b0, b0 = [0, 0, pickV bs (p + 1 + 1) 900].getD (pickV bs (p + 1 + 1 + 1) 3).toNat 0 ∧ [D.int .i64 0, .int .i64 0, .int .i64 (pickV bs (p + 1 + 1) 900)].getD (pickV bs (p + 1 + 1 + 1) 3).toNat (.int .i64 0) = .int .i64 b0 ∧ 0 ≤ b0 ∧ b0 ≤ 899 := by
    have hi : (pickV bs (p + 1 + 1 + 1) 3).toNat = 0 ∨ (pickV bs (p + 1 + 1 + 1) 3).toNat = 1 ∨ (pickV bs (p + 1 + 1 + 1) 3).toNat = 2 := by omega
    rcases hi with e | e | e <;> rw [e]
    · exact ⟨0, rfl, rfl, by omega, by omega⟩
    · exact ⟨0, rfl, rfl, by omega, by omega⟩
    · exact ⟨pickV bs (p + 1 + 1) 900, rfl, rfl, v3.1, by omega⟩
  try simp -implicitDefEqProofs only [r1, r2, r5, r6, r7, r8, w1, w2, w3, lenMax, hb0, List.length_set, push_cast, Nat.reduceEqDiff, Nat.reduceBEq, Nat.reduceBNe, Nat.reduceAdd, Nat.reduceMul, Nat.reduceLT, Nat.reduceLeDiff, Nat.reduceSub, reduceCtorEq, Int.reduceToNat, ↓reduceIte]
  repeat'
    (first
     | (refine uYes ?_; first | exact List.mem_cons_self | (simp only [List.mem_cons, List.not_mem_nil, or_false, true_or, or_true]; done))
     | (refine uNo (by kernel_rfl))
     | (refine flatMk ?_; kernel_rfl)
     | (refine And.intro ?_ ?_)
     | (intro hx)
     | ((first
         | (refine callGF ?_)
         | (refine callQGF ?_)
         | (refine skipG ?_)
         | (refine callM (pick_gives bs p _ r _ ((r4 _).trans hr) (by simp; omega) (H.up (by omega) (by omega))) ?_)
         | (refine callM (pick_gives bs _ _ r _ (r3 _ _) (by simp; omega) (H.up (by omega) (by omega))) ?_)); simp -implicitDefEqProofs only [r1, r2, r5, r6, r7, r8, w1, w2, w3, lenMax, hb0, List.length_set, push_cast, Nat.reduceEqDiff, Nat.reduceBEq, Nat.reduceBNe, Nat.reduceAdd, Nat.reduceMul, Nat.reduceLT, Nat.reduceLeDiff, Nat.reduceSub, reduceCtorEq, Int.reduceToNat, ↓reduceIte]))
  all_goals try omega
  refine ev_loopT r (fun s : Lms × Int => [(0, .ptr r 0), (10, .ptr h.length 0), (12, .ptr (h.length + 1) 0), (13, .int .i64 s.1.n)]) (fun s => rdC bs s.2)
    (fun s => [zeroLeg, legRow nm src dst dep (dep + 1 + pickV bs (p + 1) 6) (1 + pickV bs p 6) (s.1.d (h.length + 2)) ((Lms.one b0).d (h.length + 3))] ++ (s.1.bufs ++ (Lms.one b0).bufs))
    (fun s => (s.1.Lim (1 + pickV bs p 6) ∧ s.2 = p + 3 + s.1.n) ∧ s.1.ExL bs (1 + pickV bs p 6) (p + 4)) (fun s => (3 - s.1.n).toNat) (.one (1 + pickV bs p 6), p + 1 + 1 + 1 + 1) ?_ ?_ ?_
  · exact ⟨⟨rfl, by simp only [Lms.n]; omega⟩, trivial⟩
  · refine ⟨⟨_, rfl, Nat.le_refl _, rfl⟩, Nat.le_refl _, legRows_cl (k := h.length + 2) (k' := h.length + 3) nm src dst dep _ _ (.one _) (.one b0) (.inr rfl) (.inr rfl), rdC_cl _ _ _, ?_⟩
    simp -implicitDefEqProofs only [SlotsOk, Lms.n, Lms.bufs, Int.natCast_add, Int.cast_ofNat_Int, List.length_nil, Nat.le_refl, WeakTo, tokSts, tokOks, List.append_cancel_left_eq, exists_eq_left', exists_eq_left, List.append_cancel_left_eq, List.take_length, ObCl, and_true, true_and, push_cast, Nat.reduceEqDiff, Nat.reduceBEq, Nat.reduceBNe, Nat.reduceAdd, Nat.reduceMul, Nat.reduceLT, Nat.reduceLeDiff, Nat.reduceSub, reduceCtorEq, Int.reduceToNat, ↓reduceIte]
    omega
  · rintro ⟨s, q⟩ ⟨⟨hL, hq⟩, hE⟩
    have z1 : IntKind.i64.wrap (1 - 1) = 0 := by decide
    have z5 : IntKind.i64.wrap (0 + 1 - 1) = 0 := by decide
    have z6 : IntKind.i64.wrap (0 + 1 + 1 - 1) = 1 := by decide
    have z2 : IntKind.i64.wrap (2 - 1) = 1 := by decide
    have z3 : IntKind.i64.wrap (1 + 1) = 2 := by decide
    have z4 : IntKind.i64.wrap (2 + 1) = 3 := by decide
    cases s with
    | one a =>
      simp only [Lms.Lim, Lms.n] at hL hq
      have vq := pickV_range (p := q) (H.up (by omega) (by omega)) 3 (by omega)
      have wq : IntKind.i64.wrap (a - pickV bs q 3) = a - pickV bs q 3 := wrap_id (by omega) (by omega)
      have go : ∀ n, 0 ≤ n → n ≤ a → (Lms.two a n, q + 1).1.Lim (1 + pickV bs p 6) ∧ (Lms.two a n, q + 1).2 = p + 3 + (Lms.two a n, q + 1).1.n := fun n h0 h1 => by
        simp only [Lms.Lim, Lms.n]
        omega
      try simp -implicitDefEqProofs only [zeroLeg, legRow, Lms.d, Lms.bufs, List.append_nil, r1, r2, r5, r6, r7, r8, lenMax, Lms.n, List.length_set, z1, z3, wq, List.getD_cons_zero, push_cast, Nat.reduceEqDiff, Nat.reduceBEq, Nat.reduceBNe, Nat.reduceAdd, Nat.reduceMul, Nat.reduceLT, Nat.reduceLeDiff, Nat.reduceSub, reduceCtorEq, Int.reduceToNat, ↓reduceIte]
      repeat'
        (first
         | (refine uYes ?_; first | exact List.mem_cons_self | (simp only [List.mem_cons, List.not_mem_nil, or_false, true_or, or_true]; done))
         | (refine uNo (by kernel_rfl))
         | (refine flatMk ?_; kernel_rfl)
         | (refine And.intro ?_ ?_)
         | (intro hx)
         | ((first
             | (refine callGF ?_)
             | (refine callQGF ?_)
             | (refine skipG ?_)
             | (refine inX_mk [r] (by kernel_rfl) (by simp; omega) ?_)
             | (refine callXR (r := r) (by simp) (by simp; omega) (fun h' hr' hl => pick_gives bs _ _ r h' (hr'.trans (r3 _ _)) hl (H.up (by omega) (by omega))) ?_)); simp -implicitDefEqProofs only [zeroLeg, legRow, Lms.d, Lms.bufs, List.append_nil, r1, r2, r5, r6, r7, r8, lenMax, Lms.n, List.length_set, z1, z3, wq, List.getD_cons_zero, push_cast, Nat.reduceEqDiff, Nat.reduceBEq, Nat.reduceBNe, Nat.reduceAdd, Nat.reduceMul, Nat.reduceLT, Nat.reduceLeDiff, Nat.reduceSub, reduceCtorEq, Int.reduceToNat, ↓reduceIte]))
      all_goals first
        | omega
        | (refine round_mkT (.two a 0, q + 1) ⟨go 0 (by omega) (by omega), by simp only [Lms.ExL, limB]; rw [← hL, ← show q = p + 4 by omega, if_pos (by omega)]⟩ (by simp) ⟨⟨_, rfl, Nat.le_refl _, rfl⟩, by simp [Lms.bufs], legRows_cl (k := h.length + 2) (k' := h.length + 3) nm src dst dep _ _ (.two a 0) (.one b0) (.inl (by simp [Lms.bufs])) (.inr rfl), rdC_cl _ _ _, ?_⟩
           simp -implicitDefEqProofs only [SlotsOk, Lms.n, Lms.bufs, Int.natCast_add, Int.cast_ofNat_Int, List.length_nil, Nat.le_refl, WeakTo, tokSts, tokOks, List.append_cancel_left_eq, exists_eq_left', exists_eq_left, List.append_cancel_left_eq, List.take_length, ObCl, and_true, true_and, push_cast, Nat.reduceEqDiff, Nat.reduceBEq, Nat.reduceBNe, Nat.reduceAdd, Nat.reduceMul, Nat.reduceLT, Nat.reduceLeDiff, Nat.reduceSub, reduceCtorEq, Int.reduceToNat, ↓reduceIte]
           omega)
        | (refine round_mkT (.two a (a - pickV bs q 3), q + 1) ⟨go _ (by omega) (by omega), by simp only [Lms.ExL, limB]; rw [← hL, ← show q = p + 4 by omega, if_neg (by omega)]⟩ (by simp) ⟨⟨_, rfl, Nat.le_refl _, rfl⟩, by simp [Lms.bufs], legRows_cl (k := h.length + 2) (k' := h.length + 3) nm src dst dep _ _ (.two a _) (.one b0) (.inl (by simp [Lms.bufs])) (.inr rfl), rdC_cl _ _ _, ?_⟩
           simp -implicitDefEqProofs only [SlotsOk, Lms.n, Lms.bufs, Int.natCast_add, Int.cast_ofNat_Int, List.length_nil, Nat.le_refl, WeakTo, tokSts, tokOks, List.append_cancel_left_eq, exists_eq_left', exists_eq_left, List.append_cancel_left_eq, List.take_length, ObCl, and_true, true_and, push_cast, Nat.reduceEqDiff, Nat.reduceBEq, Nat.reduceBNe, Nat.reduceAdd, Nat.reduceMul, Nat.reduceLT, Nat.reduceLeDiff, Nat.reduceSub, reduceCtorEq, Int.reduceToNat, ↓reduceIte]
           omega)
        | trace_state
    | two a b =>
      simp only [Lms.Lim, Lms.n] at hL hq
      have vq := pickV_range (p := q) (H.up (by omega) (by omega)) 3 (by omega)
      have wq : IntKind.i64.wrap (b - pickV bs q 3) = b - pickV bs q 3 := wrap_id (by omega) (by omega)
      have go : ∀ n, 0 ≤ n → n ≤ b → (Lms.three a b n, q + 1).1.Lim (1 + pickV bs p 6) ∧ (Lms.three a b n, q + 1).2 = p + 3 + (Lms.three a b n, q + 1).1.n := fun n h0 h1 => by
        simp only [Lms.Lim, Lms.n]
        omega
      try simp -implicitDefEqProofs only [zeroLeg, legRow, Lms.d, Lms.bufs, List.append_nil, r1, r2, r5, r6, r7, r8, lenMax, Lms.n, List.length_set, z2, z4, wq, List.getD_cons_zero, List.getD_cons_succ, push_cast, Nat.reduceEqDiff, Nat.reduceBEq, Nat.reduceBNe, Nat.reduceAdd, Nat.reduceMul, Nat.reduceLT, Nat.reduceLeDiff, Nat.reduceSub, reduceCtorEq, Int.reduceToNat, ↓reduceIte]
      repeat'
        (first
         | (refine uYes ?_; first | exact List.mem_cons_self | (simp only [List.mem_cons, List.not_mem_nil, or_false, true_or, or_true]; done))
         | (refine uNo (by kernel_rfl))
         | (refine flatMk ?_; kernel_rfl)
         | (refine And.intro ?_ ?_)
         | (intro hx)
         | ((first
             | (refine callGF ?_)
             | (refine callQGF ?_)
             | (refine skipG ?_)
             | (refine inX_mk [r] (by kernel_rfl) (by simp; omega) ?_)
             | (refine callXR (r := r) (by simp) (by simp; omega) (fun h' hr' hl => pick_gives bs _ _ r h' (hr'.trans (r3 _ _)) hl (H.up (by omega) (by omega))) ?_)); simp -implicitDefEqProofs only [zeroLeg, legRow, Lms.d, Lms.bufs, List.append_nil, r1, r2, r5, r6, r7, r8, lenMax, Lms.n, List.length_set, z2, z4, wq, List.getD_cons_zero, List.getD_cons_succ, push_cast, Nat.reduceEqDiff, Nat.reduceBEq, Nat.reduceBNe, Nat.reduceAdd, Nat.reduceMul, Nat.reduceLT, Nat.reduceLeDiff, Nat.reduceSub, reduceCtorEq, Int.reduceToNat, ↓reduceIte]))
      all_goals first
        | omega
        | (refine round_mkT (.three a b 0, q + 1) ⟨go 0 (by omega) (by omega), hE, by rw [limB, ← show q = p + 4 + 1 by omega, if_pos (by omega)]⟩ (by simp) ⟨⟨_, rfl, Nat.le_refl _, rfl⟩, by simp [Lms.bufs], legRows_cl (k := h.length + 2) (k' := h.length + 3) nm src dst dep _ _ (.three a b _) (.one b0) (.inl (by simp [Lms.bufs])) (.inr rfl), rdC_cl _ _ _, ?_⟩
           simp -implicitDefEqProofs only [SlotsOk, Lms.n, Lms.bufs, Int.natCast_add, Int.cast_ofNat_Int, List.length_nil, Nat.le_refl, WeakTo, tokSts, tokOks, List.append_cancel_left_eq, exists_eq_left', exists_eq_left, List.append_cancel_left_eq, List.take_length, ObCl, and_true, true_and, push_cast, Nat.reduceEqDiff, Nat.reduceBEq, Nat.reduceBNe, Nat.reduceAdd, Nat.reduceMul, Nat.reduceLT, Nat.reduceLeDiff, Nat.reduceSub, reduceCtorEq, Int.reduceToNat, ↓reduceIte]
           omega)
        | (refine round_mkT (.three a b (b - pickV bs q 3), q + 1) ⟨go _ (by omega) (by omega), hE, by rw [limB, ← show q = p + 4 + 1 by omega, if_neg (by omega)]⟩ (by simp) ⟨⟨_, rfl, Nat.le_refl _, rfl⟩, by simp [Lms.bufs], legRows_cl (k := h.length + 2) (k' := h.length + 3) nm src dst dep _ _ (.three a b _) (.one b0) (.inl (by simp [Lms.bufs])) (.inr rfl), rdC_cl _ _ _, ?_⟩
           simp -implicitDefEqProofs only [SlotsOk, Lms.n, Lms.bufs, Int.natCast_add, Int.cast_ofNat_Int, List.length_nil, Nat.le_refl, WeakTo, tokSts, tokOks, List.append_cancel_left_eq, exists_eq_left', exists_eq_left, List.append_cancel_left_eq, List.take_length, ObCl, and_true, true_and, push_cast, Nat.reduceEqDiff, Nat.reduceBEq, Nat.reduceBNe, Nat.reduceAdd, Nat.reduceMul, Nat.reduceLT, Nat.reduceLeDiff, Nat.reduceSub, reduceCtorEq, Int.reduceToNat, ↓reduceIte]
           omega)
        | trace_state
    | three a b c =>
      simp only [Lms.Lim, Lms.n] at hL hq
      have vq := pickV_range (p := q) (H.up (by omega) (by omega)) 3 (by omega)
      try simp -implicitDefEqProofs only [zeroLeg, legRow, Lms.d, Lms.bufs, List.append_nil, r1, r2, r5, r6, r7, r8, lenMax, Lms.n, List.length_set, push_cast, Nat.reduceEqDiff, Nat.reduceBEq, Nat.reduceBNe, Nat.reduceAdd, Nat.reduceMul, Nat.reduceLT, Nat.reduceLeDiff, Nat.reduceSub, reduceCtorEq, Int.reduceToNat, ↓reduceIte]
      repeat'
        (first
         | (refine uYes ?_; first | exact List.mem_cons_self | (simp only [List.mem_cons, List.not_mem_nil, or_false, true_or, or_true]; done))
         | (refine uNo (by kernel_rfl))
         | (refine flatMk ?_; kernel_rfl)
         | (refine And.intro ?_ ?_)
         | (intro hx)
         | ((first
             | (refine callGF ?_)
             | (refine callQGF ?_)
             | (refine skipG ?_)
             | (refine callM (pick_gives bs _ _ r _ (r3 _ _) (by simp; omega) (H.up (by omega) (by omega))) ?_)
             | (refine callS (in_gives _ _ _ _) ?_)
             | (refine callQ (in_gives _ _ _ _) ?_)
             | (refine callG (fun hc => (in_gives _ _ _ _)) ?_)
             | (refine callQG (fun hc => (in_gives _ _ _ _)) ?_)); simp -implicitDefEqProofs only [zeroLeg, legRow, Lms.d, Lms.bufs, List.append_nil, r1, r2, r5, r6, r7, r8, lenMax, Lms.n, List.length_set, push_cast, Nat.reduceEqDiff, Nat.reduceBEq, Nat.reduceBNe, Nat.reduceAdd, Nat.reduceMul, Nat.reduceLT, Nat.reduceLeDiff, Nat.reduceSub, reduceCtorEq, Int.reduceToNat, ↓reduceIte]))
      all_goals try omega
      refine ev_loopT r (fun s : Lms × Int × Int => [(0, .ptr r 0), (10, .ptr h.length 0), (12, .ptr (h.length + 1) 0), (15, .int .i64 s.2.1)]) (fun s => rdC bs s.2.2)
        (fun s => [zeroLeg, legRow nm src dst dep (dep + 1 + pickV bs (p + 1) 6) (1 + pickV bs p 6) ((Lms.three a b c).d (h.length + 2)) (s.1.d (h.length + 3))] ++ ((Lms.three a b c).bufs ++ s.1.bufs))
        (fun s => (s.1.Lim b0 ∧ 0 ≤ s.2.1 ∧ s.2.1 + s.1.n ≤ 3 ∧ s.2.2 = q + s.1.n) ∧ s.1.ExB bs b0 (p + 7) ∧ s.2.1 = pickV bs (p + 6) 3 + 1 - s.1.n) (fun s => s.2.1.toNat) (.one b0, pickV bs q 3, q + 1) ?_ ?_ ?_
      · refine ⟨⟨rfl, vq.1, ?_, ?_⟩, rfl, ?_⟩
        · simp only [Lms.n]; omega
        · simp only [Lms.n]
        · simp only [Lms.n]; rw [show q = p + 6 by omega]; omega
      · refine ⟨⟨_, rfl, Nat.le_refl _, rfl⟩, Nat.le_refl _, legRows_cl (k := h.length + 2) (k' := h.length + 3) nm src dst dep _ _ (.three a b c) (.one b0) (.inl (by simp [Lms.bufs])) (.inr rfl), rdC_cl _ _ _, ?_⟩
        simp -implicitDefEqProofs only [SlotsOk, Lms.n, Lms.bufs, Int.natCast_add, Int.cast_ofNat_Int, List.length_nil, Nat.le_refl, WeakTo, tokSts, tokOks, List.append_cancel_left_eq, exists_eq_left', exists_eq_left, List.append_cancel_left_eq, List.take_length, ObCl, and_true, true_and, push_cast, Nat.reduceEqDiff, Nat.reduceBEq, Nat.reduceBNe, Nat.reduceAdd, Nat.reduceMul, Nat.reduceLT, Nat.reduceLeDiff, Nat.reduceSub, reduceCtorEq, Int.reduceToNat, ↓reduceIte]
        omega
      · rintro ⟨s, n, u⟩ ⟨⟨hB, hn0, hn1, hu⟩, hEB, hEn⟩
        simp only at hB hn0 hn1 hu hEB hEn
        have wn : IntKind.i64.wrap (n - 1) = n - 1 := wrap_id (by cases s <;> simp only [Lms.n] at hn1 <;> omega) (by cases s <;> simp only [Lms.n] at hn1 <;> omega)
        cases s with
        | one x =>
          simp only [Lms.Lim, Lms.n, Lms.ExB] at hB hn1 hu hEB hEn
          have vu := pickV_range (p := u) (H.up (by omega) (by omega)) 10 (by omega)
          have hm := quo10 (b := x) (v := pickV bs u 10) (by omega) vu.1 (by omega)
          have wu : IntKind.i64.wrap (x * pickV bs u 10) = x * pickV bs u 10 := wrap_id (by omega) (by omega)
          have wv : IntKind.i64.wrap ((x * pickV bs u 10).tdiv 10) = (x * pickV bs u 10).tdiv 10 := wrap_id (by omega) (by omega)
          have go : (Lms.two x ((x * pickV bs u 10).tdiv 10), n - 1, u + 1).1.Lim b0 ∧ 0 ≤ n - 1 ∨ n < 1 := by
            simp only [Lms.Lim]
            omega
          try simp -implicitDefEqProofs only [zeroLeg, legRow, Lms.d, Lms.bufs, List.append_nil, r1, r2, r5, r6, r7, r8, lenMax, Lms.n, List.length_set, z5, wu, wv, wn, List.getD_cons_zero, List.getD_cons_succ, push_cast, Nat.reduceEqDiff, Nat.reduceBEq, Nat.reduceBNe, Nat.reduceAdd, Nat.reduceMul, Nat.reduceLT, Nat.reduceLeDiff, Nat.reduceSub, reduceCtorEq, Int.reduceToNat, ↓reduceIte]
          repeat'
            (first
             | (refine uYes ?_; first | exact List.mem_cons_self | (simp only [List.mem_cons, List.not_mem_nil, or_false, true_or, or_true]; done))
             | (refine uNo (by kernel_rfl))
             | (refine flatMk ?_; kernel_rfl)
             | (refine And.intro ?_ ?_)
             | (intro hx)
             | ((first
                 | (refine callGF ?_)
                 | (refine callQGF ?_)
                 | (refine skipG ?_)
                 | (refine inX_mk [r] (by kernel_rfl) (by simp; omega) ?_)
                 | (refine callXR (r := r) (by simp) (by simp; omega) (fun h' hr' hl => pick_gives bs _ _ r h' (hr'.trans (r3 _ _)) hl (H.up (by omega) (by omega))) ?_)); simp -implicitDefEqProofs only [zeroLeg, legRow, Lms.d, Lms.bufs, List.append_nil, r1, r2, r5, r6, r7, r8, lenMax, Lms.n, List.length_set, z5, wu, wv, wn, List.getD_cons_zero, List.getD_cons_succ, push_cast, Nat.reduceEqDiff, Nat.reduceBEq, Nat.reduceBNe, Nat.reduceAdd, Nat.reduceMul, Nat.reduceLT, Nat.reduceLeDiff, Nat.reduceSub, reduceCtorEq, Int.reduceToNat, ↓reduceIte]))
          all_goals first
            | omega
            | (obtain rfl : _ = _ := List.mem_singleton.1 hx
               trivial)
            | (refine round_mkT (Lms.two x ((x * pickV bs u 10).tdiv 10), n - 1, u + 1) ⟨⟨(go.resolve_right (by omega)).1, by simp only; omega, by simp only [Lms.n]; omega, by simp only [Lms.n]; omega⟩, ⟨hEB, by rw [bidN, hEB, show u = p + 7 by omega]⟩, by simp only [Lms.n]; omega⟩ (by simp only; omega) ⟨⟨_, rfl, Nat.le_refl _, rfl⟩, by simp [Lms.bufs], legRows_cl (k := h.length + 2) (k' := h.length + 3) nm src dst dep _ _ (.three a b c) (.two x _) (.inl (by simp [Lms.bufs])) (.inl (by simp [Lms.bufs])), rdC_cl _ _ _, ?_⟩
               simp -implicitDefEqProofs only [SlotsOk, Lms.n, Lms.bufs, Int.natCast_add, Int.cast_ofNat_Int, List.length_nil, Nat.le_refl, WeakTo, tokSts, tokOks, List.append_cancel_left_eq, exists_eq_left', exists_eq_left, List.append_cancel_left_eq, List.take_length, ObCl, and_true, true_and, push_cast, Nat.reduceEqDiff, Nat.reduceBEq, Nat.reduceBNe, Nat.reduceAdd, Nat.reduceMul, Nat.reduceLT, Nat.reduceLeDiff, Nat.reduceSub, reduceCtorEq, Int.reduceToNat, ↓reduceIte]
               omega)
            | skip
          refine finS_of (d := (mkL nm src dst dep (dep + 1 + pickV bs (p + 1) 6) (1 + pickV bs p 6) (.three a b c) (.one x)).d) (hh := h.set r (.row (rdC bs u))) ⟨_, u, legV_eq (B := .one x) hL.1 hE hb0' (by rw [bidL, if_pos (by omega), hEB]) (by omega), rfl, rfl⟩ ?_
          try simp -implicitDefEqProofs only [mkL, Lms.xs, List.length_set, r5, r6, push_cast, Nat.reduceEqDiff, Nat.reduceBEq, Nat.reduceBNe, Nat.reduceAdd, Nat.reduceMul, Nat.reduceLT, Nat.reduceLeDiff, Nat.reduceSub, reduceCtorEq, Int.reduceToNat, ↓reduceIte]
          repeat'
            (first
             | (refine uYes ?_; first | exact List.mem_cons_self | (simp only [List.mem_cons, List.not_mem_nil, or_false, true_or, or_true]; done))
             | (refine uNo (by kernel_rfl))
             | (refine flatMk ?_; kernel_rfl)
             | (refine And.intro ?_ ?_)
             | ((first
                 | (refine callGF ?_)
                 | (refine callQGF ?_)
                 | (refine skipG ?_)
                 | (refine callS (in_gives _ _ _ _) ?_)
                 | (refine callQ (in_gives _ _ _ _) ?_)
                 | (refine callG (fun hc => (in_gives _ _ _ _)) ?_)
                 | (refine callQG (fun hc => (in_gives _ _ _ _)) ?_)); simp -implicitDefEqProofs only [mkL, Lms.xs, List.length_set, r5, r6, push_cast, Nat.reduceEqDiff, Nat.reduceBEq, Nat.reduceBNe, Nat.reduceAdd, Nat.reduceMul, Nat.reduceLT, Nat.reduceLeDiff, Nat.reduceSub, reduceCtorEq, Int.reduceToNat, ↓reduceIte]))
          all_goals exact back_rd hrl bs u _
        | two x y =>
          simp only [Lms.Lim, Lms.n, Lms.ExB] at hB hn1 hu hEB hEn
          have vu := pickV_range (p := u) (H.up (by omega) (by omega)) 10 (by omega)
          have hm := quo10 (b := y) (v := pickV bs u 10) (by omega) vu.1 (by omega)
          have wu : IntKind.i64.wrap (y * pickV bs u 10) = y * pickV bs u 10 := wrap_id (by omega) (by omega)
          have wv : IntKind.i64.wrap ((y * pickV bs u 10).tdiv 10) = (y * pickV bs u 10).tdiv 10 := wrap_id (by omega) (by omega)
          have go : (Lms.three x y ((y * pickV bs u 10).tdiv 10), n - 1, u + 1).1.Lim b0 ∧ 0 ≤ n - 1 ∨ n < 1 := by
            simp only [Lms.Lim]
            omega
          try simp -implicitDefEqProofs only [zeroLeg, legRow, Lms.d, Lms.bufs, List.append_nil, r1, r2, r5, r6, r7, r8, lenMax, Lms.n, List.length_set, z6, wu, wv, wn, List.getD_cons_zero, List.getD_cons_succ, push_cast, Nat.reduceEqDiff, Nat.reduceBEq, Nat.reduceBNe, Nat.reduceAdd, Nat.reduceMul, Nat.reduceLT, Nat.reduceLeDiff, Nat.reduceSub, reduceCtorEq, Int.reduceToNat, ↓reduceIte]
          repeat'
            (first
             | (refine uYes ?_; first | exact List.mem_cons_self | (simp only [List.mem_cons, List.not_mem_nil, or_false, true_or, or_true]; done))
             | (refine uNo (by kernel_rfl))
             | (refine flatMk ?_; kernel_rfl)
             | (refine And.intro ?_ ?_)
             | (intro hx)
             | ((first
                 | (refine callGF ?_)
                 | (refine callQGF ?_)
                 | (refine skipG ?_)
                 | (refine inX_mk [r] (by kernel_rfl) (by simp; omega) ?_)
                 | (refine callXR (r := r) (by simp) (by simp; omega) (fun h' hr' hl => pick_gives bs _ _ r h' (hr'.trans (r3 _ _)) hl (H.up (by omega) (by omega))) ?_)); simp -implicitDefEqProofs only [zeroLeg, legRow, Lms.d, Lms.bufs, List.append_nil, r1, r2, r5, r6, r7, r8, lenMax, Lms.n, List.length_set, z6, wu, wv, wn, List.getD_cons_zero, List.getD_cons_succ, push_cast, Nat.reduceEqDiff, Nat.reduceBEq, Nat.reduceBNe, Nat.reduceAdd, Nat.reduceMul, Nat.reduceLT, Nat.reduceLeDiff, Nat.reduceSub, reduceCtorEq, Int.reduceToNat, ↓reduceIte]))
          all_goals first
            | omega
            | (obtain rfl : _ = _ := List.mem_singleton.1 hx
               trivial)
            | (refine round_mkT (Lms.three x y ((y * pickV bs u 10).tdiv 10), n - 1, u + 1) ⟨⟨(go.resolve_right (by omega)).1, by simp only; omega, by simp only [Lms.n]; omega, by simp only [Lms.n]; omega⟩, ⟨hEB.1, hEB.2, by rw [bidN, show u = p + 7 + 1 by omega]⟩, by simp only [Lms.n]; omega⟩ (by simp only; omega) ⟨⟨_, rfl, Nat.le_refl _, rfl⟩, by simp [Lms.bufs], legRows_cl (k := h.length + 2) (k' := h.length + 3) nm src dst dep _ _ (.three a b c) (.three x y _) (.inl (by simp [Lms.bufs])) (.inl (by simp [Lms.bufs])), rdC_cl _ _ _, ?_⟩
               simp -implicitDefEqProofs only [SlotsOk, Lms.n, Lms.bufs, Int.natCast_add, Int.cast_ofNat_Int, List.length_nil, Nat.le_refl, WeakTo, tokSts, tokOks, List.append_cancel_left_eq, exists_eq_left', exists_eq_left, List.append_cancel_left_eq, List.take_length, ObCl, and_true, true_and, push_cast, Nat.reduceEqDiff, Nat.reduceBEq, Nat.reduceBNe, Nat.reduceAdd, Nat.reduceMul, Nat.reduceLT, Nat.reduceLeDiff, Nat.reduceSub, reduceCtorEq, Int.reduceToNat, ↓reduceIte]
               omega)
            | skip
          refine finS_of (d := (mkL nm src dst dep (dep + 1 + pickV bs (p + 1) 6) (1 + pickV bs p 6) (.three a b c) (.two x y)).d) (hh := h.set r (.row (rdC bs u))) ⟨_, u, legV_eq (B := .two x y) hL.1 hE hb0' (by rw [bidL, if_neg (by omega), if_pos (by omega), hEB.1, hEB.2]) (by omega), rfl, rfl⟩ ?_
          try simp -implicitDefEqProofs only [mkL, Lms.xs, List.length_set, r5, r6, push_cast, Nat.reduceEqDiff, Nat.reduceBEq, Nat.reduceBNe, Nat.reduceAdd, Nat.reduceMul, Nat.reduceLT, Nat.reduceLeDiff, Nat.reduceSub, reduceCtorEq, Int.reduceToNat, ↓reduceIte]
          repeat'
            (first
             | (refine uYes ?_; first | exact List.mem_cons_self | (simp only [List.mem_cons, List.not_mem_nil, or_false, true_or, or_true]; done))
             | (refine uNo (by kernel_rfl))
             | (refine flatMk ?_; kernel_rfl)
             | (refine And.intro ?_ ?_)
             | ((first
                 | (refine callGF ?_)
                 | (refine callQGF ?_)
                 | (refine skipG ?_)
                 | (refine callS (in_gives _ _ _ _) ?_)
                 | (refine callQ (in_gives _ _ _ _) ?_)
                 | (refine callG (fun hc => (in_gives _ _ _ _)) ?_)
                 | (refine callQG (fun hc => (in_gives _ _ _ _)) ?_)); simp -implicitDefEqProofs only [mkL, Lms.xs, List.length_set, r5, r6, push_cast, Nat.reduceEqDiff, Nat.reduceBEq, Nat.reduceBNe, Nat.reduceAdd, Nat.reduceMul, Nat.reduceLT, Nat.reduceLeDiff, Nat.reduceSub, reduceCtorEq, Int.reduceToNat, ↓reduceIte]))
          all_goals exact back_rd hrl bs u _
        | three x y z =>
          simp only [Lms.Lim, Lms.n, Lms.ExB] at hB hn1 hu hEB hEn
          try simp -implicitDefEqProofs only [zeroLeg, legRow, Lms.d, Lms.bufs, List.append_nil, r1, r2, r5, r6, r7, r8, lenMax, Lms.n, List.length_set, wn, push_cast, Nat.reduceEqDiff, Nat.reduceBEq, Nat.reduceBNe, Nat.reduceAdd, Nat.reduceMul, Nat.reduceLT, Nat.reduceLeDiff, Nat.reduceSub, reduceCtorEq, Int.reduceToNat, ↓reduceIte]
          repeat'
            (first
             | (refine uYes ?_; first | exact List.mem_cons_self | (simp only [List.mem_cons, List.not_mem_nil, or_false, true_or, or_true]; done))
             | (refine uNo (by kernel_rfl))
             | (refine flatMk ?_; kernel_rfl)
             | (refine And.intro ?_ ?_)
             | (intro hx)
             | ((first
                 | (refine callGF ?_)
                 | (refine callQGF ?_)
                 | (refine skipG ?_)
                 | (refine callS (in_gives _ _ _ _) ?_)
                 | (refine callQ (in_gives _ _ _ _) ?_)
                 | (refine callG (fun hc => (in_gives _ _ _ _)) ?_)
                 | (refine callQG (fun hc => (in_gives _ _ _ _)) ?_)); simp -implicitDefEqProofs only [zeroLeg, legRow, Lms.d, Lms.bufs, List.append_nil, r1, r2, r5, r6, r7, r8, lenMax, Lms.n, List.length_set, wn, push_cast, Nat.reduceEqDiff, Nat.reduceBEq, Nat.reduceBNe, Nat.reduceAdd, Nat.reduceMul, Nat.reduceLT, Nat.reduceLeDiff, Nat.reduceSub, reduceCtorEq, Int.reduceToNat, ↓reduceIte]))
          all_goals try omega
          refine finS_of (d := (mkL nm src dst dep (dep + 1 + pickV bs (p + 1) 6) (1 + pickV bs p 6) (.three a b c) (.three x y z)).d) (hh := h.set r (.row (rdC bs u))) ⟨_, u, legV_eq (B := .three x y z) hL.1 hE hb0' (by rw [bidL, if_neg (by omega), if_neg (by omega), hEB.2.2, hEB.1, hEB.2.1]) (by omega), rfl, rfl⟩ ?_
          try simp -implicitDefEqProofs only [mkL, Lms.xs, List.length_set, r5, r6, push_cast, Nat.reduceEqDiff, Nat.reduceBEq, Nat.reduceBNe, Nat.reduceAdd, Nat.reduceMul, Nat.reduceLT, Nat.reduceLeDiff, Nat.reduceSub, reduceCtorEq, Int.reduceToNat, ↓reduceIte]
          repeat'
            (first
             | (refine uYes ?_; first | exact List.mem_cons_self | (simp only [List.mem_cons, List.not_mem_nil, or_false, true_or, or_true]; done))
             | (refine uNo (by kernel_rfl))
             | (refine flatMk ?_; kernel_rfl)
             | (refine And.intro ?_ ?_)
             | ((first
                 | (refine callGF ?_)
                 | (refine callQGF ?_)
                 | (refine skipG ?_)
                 | (refine callS (in_gives _ _ _ _) ?_)
                 | (refine callQ (in_gives _ _ _ _) ?_)
                 | (refine callG (fun hc => (in_gives _ _ _ _)) ?_)
                 | (refine callQG (fun hc => (in_gives _ _ _ _)) ?_)); simp -implicitDefEqProofs only [mkL, Lms.xs, List.length_set, r5, r6, push_cast, Nat.reduceEqDiff, Nat.reduceBEq, Nat.reduceBNe, Nat.reduceAdd, Nat.reduceMul, Nat.reduceLT, Nat.reduceLeDiff, Nat.reduceSub, reduceCtorEq, Int.reduceToNat, ↓reduceIte]))
          all_goals exact back_rd hrl bs u _
end Go.Proofs.Ytcmpcpigchlhpaa

namespace Go.Proofs.Ytcmpcpigchlhpaa
set_option linter.unusedSectionVars false
open Go.Av
variable [Av.Start]
set_option maxRecDepth 10000
set_option maxHeartbeats 1000000
set_option linter.unusedSimpArgs false
set_option linter.unusedVariables false
attribute [local irreducible] finS

omit [Av.Start] in
theorem limB_range {bs : List Int} {a q : Int} (H : Rd bs q) (h0 : 0 ≤ a) : 0 ≤ limB bs a q ∧ limB bs a q ≤ a := by
  have := pickV_range H 3 (by omega)
  rw [limB]
  split <;> omega
omit [Av.Start] in
theorem bidN_range {bs : List Int} {x u : Int} (H : Rd bs u) (h0 : 0 ≤ x) : 0 ≤ bidN bs x u ∧ bidN bs x u ≤ x := by
  have hv := pickV_range H 10 (by omega)
  exact (quo10 h0 hv.1 (by omega)).2.2
omit [Av.Start] in
theorem bidL_lim {bs : List Int} {b0 n u : Int} (H : Rd bs (u + 1)) (hu : 0 ≤ u) (h0 : 0 ≤ b0) : (bidL bs b0 n u).Lim b0 := by
  have hh := H.hi
  have h1 := bidN_range (H.up hu (by omega)) h0
  have h2 := bidN_range H h1.1
  rw [bidL]
  split
  · exact rfl
  · split
    · exact ⟨rfl, h1⟩
    · exact ⟨rfl, h1.1, h1.2, h2⟩
omit [Av.Start] in
theorem legV_ok {bs : List Int} {p dep : Int} {nm src dst : List UInt8} (H : Rd bs (p + 100)) (hp0 : 0 ≤ p) (hn : nameB nm = true) (hs : nameB src = true) (hd : nameB dst = true) (hne : src ≠ dst) (h0 : 0 ≤ dep) (h1 : dep ≤ 1000) :
    LegP (legV bs p nm src dst dep).1 ∧ p ≤ (legV bs p nm src dst dep).2 ∧ (legV bs p nm src dst dep).2 ≤ p + 20 := by
  have hh := H.hi
  have v1 := pickV_range (p := p) (H.up (by omega) (by omega)) 6 (by omega)
  have v2 := pickV_range (p := p + 1) (H.up (by omega) (by omega)) 6 (by omega)
  have v3 := pickV_range (p := p + 1 + 1) (H.up (by omega) (by omega)) 900 (by omega)
  have v4 := pickV_range (p := p + 1 + 1 + 1) (H.up (by omega) (by omega)) 3 (by omega)
  have v5 := pickV_range (p := p + 6) (H.up (by omega) (by omega)) 3 (by omega)
  have l1 := limB_range (a := 1 + pickV bs p 6) (q := p + 4) (H.up (by omega) (by omega)) (by omega)
  have l2 := limB_range (a := limB bs (1 + pickV bs p 6) (p + 4)) (q := p + 4 + 1) (H.up (by omega) (by omega)) l1.1
  have hb : 0 ≤ [0, 0, pickV bs (p + 1 + 1) 900].getD (pickV bs (p + 1 + 1 + 1) 3).toNat 0 ∧ [0, 0, pickV bs (p + 1 + 1) 900].getD (pickV bs (p + 1 + 1 + 1) 3).toNat 0 ≤ 899 := by
    have hi : (pickV bs (p + 1 + 1 + 1) 3).toNat = 0 ∨ (pickV bs (p + 1 + 1 + 1) 3).toNat = 1 ∨ (pickV bs (p + 1 + 1 + 1) 3).toNat = 2 := by omega
    rcases hi with e | e | e <;> rw [e]
    · exact ⟨Int.le_refl _, show (0 : Int) ≤ 899 by decide⟩
    · exact ⟨Int.le_refl _, show (0 : Int) ≤ 899 by decide⟩
    · exact ⟨v3.1, show pickV bs (p + 1 + 1) 900 ≤ 899 by omega⟩
  refine ⟨mkL_ok hn hs hd hne h0 (by omega) (by omega) (by omega) (by omega) rfl ⟨l1.1, l1.2, l2.1, l2.2⟩ (bidL_lim (H.up (by omega) (by omega)) (by omega) hb.1) hb.1 hb.2, ?_, ?_⟩
  · show p ≤ p + 7 + pickV bs (p + 6) 3
    omega
  · show p + 7 + pickV bs (p + 6) 3 ≤ p + 20
    omega

/-- what a round of l14Sold does -/
def drawH (bs : List Int) (q : Int) : Hold := ⟨1 + pickV bs (q + 1) 8, pickV bs q 3, [1, 2, 1, -1].getD (pickV bs (q + 1 + 1) 4).toNat 0⟩
def stepS (bs : List Int) (s : Leg × Int) : Leg × Int :=
  if canB s.1 (drawH bs s.2) 1000000000 = true then
    if pickV bs (s.2 + 1 + 1 + 1) 2 = 0 then (keepL (holdL s.1 (drawH bs s.2)) ((holdL s.1 (drawH bs s.2)).holds.getD (pickV bs (s.2 + 1 + 1 + 1 + 1) (holdL s.1 (drawH bs s.2)).holds.length).toNat default).txn, s.2 + 1 + 1 + 1 + 1 + 1)
    else (holdL s.1 (drawH bs s.2), s.2 + 1 + 1 + 1 + 1)
  else (s.1, s.2 + 1 + 1 + 1)
def iterS (bs : List Int) : Nat → Leg × Int → Leg × Int
  | 0, s => s
  | n + 1, s => iterS bs n (stepS bs s)
def nmLa : List UInt8 := [108, 97]
def nmX : List UInt8 := [120]
def nmY : List UInt8 := [121]
def soldS (bs : List Int) (p : Int) : Leg × Int :=
  iterS bs (pickV bs (legV bs (p + 1) nmLa nmX nmY (pickV bs p 9)).2 5).toNat ((legV bs (p + 1) nmLa nmX nmY (pickV bs p 9)).1, (legV bs (p + 1) nmLa nmX nmY (pickV bs p 9)).2 + 1)
omit [Av.Start] in
theorem stepS_ok {bs : List Int} {s : Leg × Int} (H : LegP s.1) : LegP (stepS bs s).1 ∧ s.2 ≤ (stepS bs s).2 ∧ (stepS bs s).2 ≤ s.2 + 5 := by
  rw [stepS]
  split
  · rename_i hc
    have h1 := hold_ok H hc
    split
    · exact ⟨(keep_ok h1 _).1, by simp only; omega, by simp only; omega⟩
    · exact ⟨h1, by simp only; omega, by simp only; omega⟩
  · exact ⟨H, by simp only; omega, by simp only; omega⟩
omit [Av.Start] in
theorem iterS_ok {bs : List Int} : ∀ (n : Nat) {s : Leg × Int}, LegP s.1 → LegP (iterS bs n s).1 ∧ s.2 ≤ (iterS bs n s).2 ∧ (iterS bs n s).2 ≤ s.2 + 5 * n
  | 0, s, H => ⟨H, by simp [iterS], by simp [iterS]⟩
  | n + 1, s, H => by
    obtain ⟨a1, a2, a3⟩ := stepS_ok (bs := bs) H
    obtain ⟨b1, b2, b3⟩ := iterS_ok n a1
    exact ⟨b1, by rw [iterS]; omega, by rw [iterS]; omega⟩
omit [Av.Start] in
theorem names_ok : nameB nmLa = true ∧ nameB nmX = true ∧ nameB nmY = true ∧ nmX ≠ nmY := by decide
omit [Av.Start] in
theorem soldS_ok {bs : List Int} {p : Int} (H : Rd bs (p + 200)) (hp0 : 0 ≤ p) : LegP (soldS bs p).1 ∧ p ≤ (soldS bs p).2 ∧ (soldS bs p).2 ≤ p + 60 := by
  have hh := H.hi
  have v1 := pickV_range (p := p) (H.up (by omega) (by omega)) 9 (by omega)
  obtain ⟨n1, n2, n3, n4⟩ := names_ok
  obtain ⟨l1, l2, l3⟩ := legV_ok (bs := bs) (p := p + 1) (dep := pickV bs p 9) (H.up (by omega) (by omega)) (by omega) n1 n2 n3 n4 v1.1 (by omega)
  have v2 := pickV_range (p := (legV bs (p + 1) nmLa nmX nmY (pickV bs p 9)).2) (H.up (by omega) (by omega)) 5 (by omega)
  obtain ⟨i1, i2, i3⟩ := iterS_ok (bs := bs) (pickV bs (legV bs (p + 1) nmLa nmX nmY (pickV bs p 9)).2 5).toNat (s := ((legV bs (p + 1) nmLa nmX nmY (pickV bs p 9)).1, (legV bs (p + 1) nmLa nmX nmY (pickV bs p 9)).2 + 1)) l1
  rw [soldS]
  simp only at i2 i3
  exact ⟨i1, by omega, by omega⟩
omit [Av.Start] in
theorem getD4 (i : Nat) : [D.int .i64 1, .int .i64 2, .int .i64 1, .int .i64 (-1)].getD i (.int .i64 0) = .int .i64 ([1, 2, 1, -1].getD i 0) := getD_map (D.int .i64) 0 [1, 2, 1, -1] i
omit [Av.Start] in
theorem soldRows_cl {N : Nat} (l : Leg) : ∀ x, x ∈ [zeroLeg, .row l.cs] → ObCl N x := by
  intro x hx
  simp only [List.mem_cons, List.not_mem_nil, or_false] at hx
  rcases hx with rfl | rfl
  · intro d hd
    simp only [List.mem_cons, List.not_mem_nil, or_false] at hd
    rcases hd with rfl | rfl | rfl | rfl | rfl | rfl | rfl | rfl | rfl | rfl
    all_goals first
      | exact .str _
      | exact .int _ _
      | exact .slice _ _ (fun _ _ e => nomatch e)
  · exact l.cl N
end Go.Proofs.Ytcmpcpigchlhpaa
