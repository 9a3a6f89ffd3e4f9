/- Calls by contract; the operations of a region one behind the other. -/
import Derived.Test.YtcmpcpigchlhpaaEb

namespace Go.Av
set_option linter.unusedSectionVars false
variable [Start]

def Enters (P : Program) (f : FuncId) : Prop := ∀ (args : Array Value) (w : World), (callFunc f args).run P w = .ok (.enter f args) w

/-- A call of f with these data, over these objects, returns, and what it hands back and leaves meets Q. -/
def Meets (P : Program) (f : FuncId) (args : List D) (h : Hp) (Q : D → Hp → Prop) : Prop :=
  Enters P f ∧ ∀ w σ vs, Inv w σ h → RepL w (own σ h) σ h args vs →
    Calls P f vs.toArray w fun e w' => ∃ v, e = .returned v ∧ ∃ d h' σ', Q d h' ∧ Inv w' σ' h' ∧ Rep w' (own σ' h') σ' h' d v ∧ Step w σ h w' σ' h'

/-- .. hands back d and leaves the objects as they were. -/
def Gives (P : Program) (f : FuncId) (args : List D) (h : Hp) (d : D) : Prop := Meets P f args h fun d' h' => d' = d ∧ h' = h

/-- A call over a frozen heap. -/
theorem Meets.frozen {P : Program} {f : FuncId} {args as : List D} {h : Hp} {Q : D → Hp → Prop} (H : Meets P f as (deadOf h) Q) (F : FzArgs h args as)
    (hQ : ∀ d h', Q d h' → ∃ rows, h' = deadOf h ++ rows ∧ NM h.length d ∧ ∀ x, x ∈ rows → NMob h.length x) : Meets P f args h fun d h' => ∃ rows, Q d (deadOf h ++ rows) ∧ h' = h ++ rows := by
  refine ⟨H.1, fun w σ vs hi hr => (H.2 w σ vs hi.frozen (F.rep hi hr)).mono ?_⟩
  rintro e w' ⟨v, he, d, h', σ', hq, hi', hd, hst⟩
  obtain ⟨rows, rfl, hn, hrows⟩ := hQ d h' hq
  obtain ⟨t1, t2⟩ := thaw hi hi' hst hrows
  refine ⟨v, he, d, h ++ rows, σ', ⟨rows, hq, rfl⟩, t1, hn.rep hd (by simp [deadOf]) (fun r hr => ?_), t2⟩
  rw [List.getElem?_append_right hr, List.getElem?_append_right (by simpa [deadOf] using hr)]
  simp [deadOf]
theorem Gives.frozen {P : Program} {f : FuncId} {args as : List D} {h : Hp} {d : D} (H : Gives P f as (deadOf h) d) (F : FzArgs h args as) (hn : NM h.length d) : Gives P f args h d := by
  have := Meets.frozen H F (fun d' h' ⟨e1, e2⟩ => ⟨[], by rw [e2, List.append_nil], e1 ▸ hn, fun x hx => by cases hx⟩)
  refine ⟨this.1, fun w σ vs hi hr => (this.2 w σ vs hi hr).mono ?_⟩
  rintro e w' ⟨v, he, d', h', σ', ⟨rows, ⟨e1, e2⟩, e3⟩, q⟩
  have : rows = [] := by
    have := congrArg List.length e2
    simpa using this
  subst this
  rw [List.append_nil] at e3
  exact ⟨v, he, d', h', σ', ⟨e1, e3⟩, q⟩

def gslot (ops : List Oper) (j : Nat) : Option Tmp := (ops[j]?).bind (·.dst)
def gval (fr : Fr) (ops : List Oper) (j : Nat) : D :=
  match gslot ops j with
  | some t => fr t
  | none => .junk
def gcond (fr : Fr) (ops : List Oper) : Option (Nat × Bool) → Bool
  | none => true
  | some (j, p) => vc (gval fr ops j) && (bof (un (gval fr ops j)) == p)
def gok (fr : Fr) (ops : List Oper) : Option (Nat × Bool) → Prop
  | none => True
  | some (j, _) => (gslot ops j).isSome = true ∧ (vc (gval fr ops j) = true → isBool (un (gval fr ops j)))
def wrapG (c : Bool) (g : Option (Nat × Bool)) (d : D) : D :=
  match g with
  | none => d
  | some _ => .when c d

def fnId : D → FuncId
  | .fn f _ => f
  | _ => 0
def fnCaps : D → List D
  | .fn _ cs => cs
  | _ => []
def isFn : D → Prop
  | .fn _ _ => True
  | _ => False

/-- A package's variable and its cells, whatever the world. -/
def GVar (g : Nat) (cs : List D) : Prop := ∀ (w : World) (σ : Sg) (h : Hp), Inv w σ h → Rep w (own σ h) σ h (.vptr cs) (.pointer (some ⟨g, 0, none⟩))
/-- Operations of their own: they read a package's variable, or make bytes of a text. -/
def isG (P : Program) : Op → Bool
  | .load _ (.global _) => true
  | .indexAddr _ (.global _) _ => true
  | .convert _ dst _ => isSliceKB (ti P dst).kind
  | .slice t _ _ _ _ => isArrKB (ti P t).kind
  | .build t _ => isArrKB (ti P t).kind
  | _ => false
def gY (P : Program) (st : St) (op : Op) (d : D) : Prop :=
  match op with
  | .load t (.global g) => ∃ cs, GVar g cs ∧ loadOk P t st.h (.vptr cs) ∧ d = loadD P t st.h (.vptr cs)
  | .indexAddr t (.global g) i => ∃ cs, GVar g cs ∧ ok1 st.fr i ∧ idxOk P t (.vptr cs) (vl st.fr i) ∧ d = idxD P t (.vptr cs) (vl st.fr i)
  | .convert src dst x => ok1 st.fr x ∧ bytesOk P src dst (vl st.fr x) ∧ d = .slice (bytesD (vl st.fr x)) .no
  | .slice t x lo hi mx => ok1 st.fr x ∧ okO st.fr lo ∧ okO st.fr hi ∧ okO st.fr mx ∧ arrOk P t st.h (vl st.fr x) (lo.map (vl st.fr)) (hi.map (vl st.fr)) (mx.map (vl st.fr)) ∧ d = arrD P t (vl st.fr x) (lo.map (vl st.fr)) (hi.map (vl st.fr))
  | .build t parts => allOk1 st.fr (parts.toList.map (·.2)) ∧ arrbOk P t (parts.toList.map (·.1)) (parts.toList.map fun p => vl st.fr p.2) ∧ d = .agg (parts.toList.map fun p => vl st.fr p.2)
  | _ => False
def quietCall (P : Program) (ops : List Oper) (o : Oper) (st : St) (f : Operand) (args : Array Operand) (K : D → Prop) : Prop :=
  ∃ d as, (gcond st.fr ops o.guard = true → ok1 st.fr f ∧ isFn (vl st.fr f) ∧ allOk1 st.fr args.toList ∧ Gives P (fnId (vl st.fr f)) as st.h d ∧ WkL (args.toList.map (vl st.fr) ++ fnCaps (vl st.fr f)) as) ∧ K (wrapG (gcond st.fr ops o.guard) o.guard d)
def quietPure (P : Program) (ops : List Oper) (o : Oper) (st : St) (K : D → Prop) : Prop :=
  (gcond st.fr ops o.guard = true → pureOk P st o.op) ∧ K (wrapG (gcond st.fr ops o.guard) o.guard (pureD P st o.op))

/-- An operation that leaves the objects as they are. -/
def quietOp (P : Program) (ops : List Oper) (o : Oper) (st : St) (K : D → Prop) : Prop :=
  gok st.fr ops o.guard ∧
  if isG P o.op = true then o.guard = none ∧ ∃ d, gY P st o.op d ∧ K d else
  match o.op with
  | .call ⟨.value f, args, _⟩ => quietCall P ops o st f args K
  | _ => quietPure P ops o st K

/-- What has come of an operation. -/
def OpRes (P : Program) (o : Oper) (a : Act) (w : World) (R : Value → World → Prop) : Prop :=
  (∃ v w', (execOp a.eval o).run P w = .ok (.value v) w' ∧ R v w') ∨ (∃ w', (execOp a.eval o).run P w = .ok .skip w' ∧ R undef w') ∨
  ∃ f args, (execOp a.eval o).run P w = .ok (.enter f args) w ∧ Calls P f args w fun e w' => ∃ v, e = .returned v ∧ R v w'

omit [Start] in
theorem OpRes.wp {P : Program} {o : Oper} {a : Act} {w : World} {R : Value → World → Prop} {next : Act → World → Prop} {Q : Exit → Act → World → Prop} (H : OpRes P o a w R) (hn : ∀ v w', R v w' → next (a.put o.dst v) w') :
    o.wp P a w next Q := by
  unfold Oper.wp
  rcases H with ⟨v, w', h1, h2⟩ | ⟨w', h1, h2⟩ | ⟨f, args, h1, h2⟩
  · rw [h1]; exact hn v w' h2
  · rw [h1]; exact hn undef w' h2
  · rw [h1]
    exact h2.mono fun e w' ⟨v, he, hr⟩ => by subst he; exact hn v w' hr

omit [Start] in
theorem OpRes.mono {P : Program} {o : Oper} {a : Act} {w : World} {R R' : Value → World → Prop} (H : OpRes P o a w R) (h : ∀ v w', R v w' → R' v w') : OpRes P o a w R' := by
  rcases H with ⟨v, w', h1, h2⟩ | ⟨w', h1, h2⟩ | ⟨f, args, h1, h2⟩
  · exact .inl ⟨v, w', h1, h _ _ h2⟩
  · exact .inr (.inl ⟨w', h1, h _ _ h2⟩)
  · exact .inr (.inr ⟨f, args, h1, h2.mono fun e w' ⟨v, he, hr⟩ => ⟨v, he, h _ _ hr⟩⟩)

section
variable {P : Program} {w : World} {σ : Sg} {st : St} {a : Act}

omit [Start] in
theorem rep_undef {ow : Nat → Nat → Prop} {h : Hp} {d : D} {v : Value} (H : Rep w ow σ h d v) : vc d = false → v = undef := by
  induction H with
  | off d => exact fun _ => rfl
  | on d v hr ih => simpa [vc] using ih
  | _ => simp [vc]

omit [Start] in
/-- Whether a guarded operation is carried out. -/
theorem wanted_eq {ops : List Oper} {o : Oper} {ow : Nat → Nat → Prop} {h : Hp} (hf : ∀ j p t, o.guard = some (j, p) → gslot ops j = some t → Rep w ow σ h (st.fr t) (a.tmps.getD t undef)) (hg : gok st.fr ops o.guard) :
    Region.wanted o (yielded ops.toArray a.tmps) = gcond st.fr ops o.guard := by
  obtain ⟨dst, op, ty, pos, af, gd⟩ := o
  cases gd with
  | none => rfl
  | some jp =>
    obtain ⟨j, p⟩ := jp
    obtain ⟨h1, h2⟩ := hg
    obtain ⟨t, ht⟩ := Option.isSome_iff_exists.1 h1
    have hr := hf j p t rfl ht
    have hgv : gval st.fr ops j = st.fr t := by simp [gval, ht]
    have ht' : (ops[j]?).bind (·.dst) = some t := ht
    simp only [Region.wanted, yielded, gcond, hgv, List.getElem?_toArray, ht', Option.bind_some] at *
    cases hv : vc (st.fr t) with
    | false =>
      have hu := rep_undef hr hv
      cases hx : a.tmps[t]? with
      | none => simp
      | some x =>
        have : x = undef := by
          rw [← hu]
          simp [Array.getD_eq_getD_getElem?, hx]
        subst this
        simp [undef]
    | true =>
      have hb := h2 hv
      have hrep := hr.un hv
      rw [isBool_of hb] at hrep
      generalize hval : a.tmps.getD t undef = x at hrep
      cases hrep with
      | bool b =>
        have hx : a.tmps[t]? = some (.bool (bof (un (st.fr t)))) := by
          rw [Array.getD_eq_getD_getElem?] at hval
          cases hx : a.tmps[t]? with
          | none => rw [hx] at hval; simp [undef] at hval
          | some x => rw [hx] at hval; simpa using hval
        simp [hx]

/-- The slots that an operation looks at: its operands', and its guard's. -/
def looks (ops : List Oper) (o : Oper) (t : Tmp) : Prop := looksTo o.op t ∨ ∃ j p, o.guard = some (j, p) ∧ gslot ops j = some t

omit [Start] in
theorem rep_wrap {ow : Nat → Nat → Prop} {h : Hp} {d : D} {v : Value} {c : Bool} (g : Option (Nat × Bool)) (H : Rep w ow σ h d v) (hc : c = true) : Rep w ow σ h (wrapG c g d) v := by
  subst hc
  cases g with
  | none => exact H
  | some p => exact .on _ _ H

theorem quiet_sound {ops : List Oper} {o : Oper} {K : D → Prop} (hq : quietOp P ops o st K) :
    ∃ d, K d ∧ ∀ w σ (a : Act), Inv w σ st.h → (∀ t, looks ops o t → Rep w (own σ st.h) σ st.h (st.fr t) (a.tmps.getD t undef)) →
      (Region.wanted o (yielded ops.toArray a.tmps) = true → OpRes P o a w fun v w' => ∃ σ', Inv w' σ' st.h ∧ Rep w' (own σ' st.h) σ' st.h d v ∧ Step w σ st.h w' σ' st.h) ∧
      (Region.wanted o (yielded ops.toArray a.tmps) = false → Rep w (own σ st.h) σ st.h d undef) := by
  obtain ⟨dst, op, ty, pos, af, gd⟩ := o
  obtain ⟨hg, hq⟩ := hq
  by_cases hG : isG P op = true
  · simp only [hG, if_true] at hq
    obtain ⟨rfl, d, hy, hK⟩ := hq
    refine ⟨d, hK, fun w σ a hi hf => ⟨fun _ => ?_, fun hw => absurd hw (by simp [Region.wanted])⟩⟩
    cases op with
    | load t x =>
      cases x with
      | global g =>
        obtain ⟨cs, h1, h2, rfl⟩ := hy
        obtain ⟨u, e1, e2⟩ := load_sound (P := P) hi (h1 w σ st.h hi) h2
        exact .inl ⟨u, w, by
          have : a.eval (.global g) = .pointer (some ⟨g, 0, none⟩) := rfl
          simp [execOp, this, e1], σ, hi, e2, .refl w σ st.h⟩
      | _ => simp [isG] at hG
    | indexAddr t x i =>
      cases x with
      | global g =>
        obtain ⟨cs, h1, k1, h2, rfl⟩ := hy
        have hv := rep_vl (a := a) (fr := st.fr) (x := i) (fun t e => hf t (.inl (by simp [looksTo, Op.operands, e]))) k1
        obtain ⟨u, e1, e2⟩ := idx_sound (P := P) (h1 w σ st.h hi) hv h2
        exact .inl ⟨u, w, by
          have : a.eval (.global g) = .pointer (some ⟨g, 0, none⟩) := rfl
          simp [execOp, this, e1], σ, hi, e2, .refl w σ st.h⟩
      | _ => simp [isG] at hG
    | convert src t x =>
      obtain ⟨k1, h2, rfl⟩ := hy
      have hv := rep_vl (a := a) (fr := st.fr) (x := x) (fun t e => hf t (.inl (by simp [looksTo, Op.operands, e]))) k1
      revert hv h2
      generalize vl st.fr x = xd
      intro h2 hv
      cases xd with
      | str s =>
        generalize hev : a.eval x = xv at hv
        cases hv with
        | str _ hl =>
          obtain ⟨v, w', e1, e2, e3, e4⟩ := conv_bytes (P := P) hi hl h2
          exact .inl ⟨v, w', by simp [execOp, hev, e1], σ, e2, e4, e3⟩
      | _ => exact h2.elim
    | slice t x lo hi' mx =>
      obtain ⟨k1, k2, k3, k4, k5, rfl⟩ := hy
      have hv := rep_vl (a := a) (fr := st.fr) (x := x) (fun u e => hf u (.inl (by simp [looksTo, Op.operands, e]))) k1
      obtain ⟨u, h1, h2⟩ := arr_sound (P := P) hi hv (repO_of lo (fun t e => hf t (.inl (by simp [looksTo, Op.operands, e]))) k2) (repO_of hi' (fun t e => hf t (.inl (by simp [looksTo, Op.operands, e]))) k3) (repO_of mx (fun t e => hf t (.inl (by simp [looksTo, Op.operands, e]))) k4) k5
      exact .inl ⟨u, w, by simp [execOp, h1], σ, hi, h2, .refl w σ st.h⟩
    | build t parts =>
      obtain ⟨k1, k2, rfl⟩ := hy
      have e1 : (parts.toList.map fun p => (p.1, vl st.fr p.2)).map (·.1) = parts.toList.map (·.1) := by rw [List.map_map]; rfl
      have e2 : (parts.toList.map fun p => (p.1, vl st.fr p.2)).map (·.2) = parts.toList.map fun p => vl st.fr p.2 := by rw [List.map_map]; rfl
      obtain ⟨u, h1, h2⟩ := arrb_sound (P := P) (w := w) (ow := own σ st.h) (σ := σ) (h := st.h) (t := t) (ps := parts.toList.map fun p => (p.1, vl st.fr p.2)) (vs := parts.map fun p => (p.1, a.eval p.2)) (by simp)
        (fun k h1 h2 => by
          simp only [Array.toList_map, List.getElem_map]
          refine ⟨trivial, ?_⟩
          have hm : parts.toList[k]'(by simpa using h1) ∈ parts.toList := List.getElem_mem _
          exact rep_vl (fun u e => hf u (.inl (by
            show Operand.tmp u ∈ _
            rw [← e]
            simp only [Op.operands, List.mem_toArray]
            exact List.mem_map.2 ⟨_, hm, rfl⟩))) (k1 _ (List.mem_map.2 ⟨_, hm, rfl⟩))) (by rw [e1, e2]; exact k2)
      rw [e2] at h2
      exact .inl ⟨u, w, by simp [execOp, h1], σ, hi, h2, .refl w σ st.h⟩
    | _ => simp [isG] at hG
  simp only [hG] at hq
  have hfalse : ∀ d w σ (a : Act), (∀ t, looks ops ⟨dst, op, ty, pos, af, gd⟩ t → Rep w (own σ st.h) σ st.h (st.fr t) (a.tmps.getD t undef)) →
      Region.wanted ⟨dst, op, ty, pos, af, gd⟩ (yielded ops.toArray a.tmps) = false → Rep w (own σ st.h) σ st.h (wrapG (gcond st.fr ops gd) gd d) undef := by
    intro d w σ a hf hw
    have hwt := wanted_eq (o := ⟨dst, op, ty, pos, af, gd⟩) (ops := ops) (fun j p t e1 e2 => hf t (.inr ⟨j, p, e1, e2⟩)) hg
    rw [hwt] at hw
    simp only at hw
    rw [hw]
    cases gd with
    | none => simp [gcond] at hw
    | some jp => exact .off _
  have hpure : quietPure P ops ⟨dst, op, ty, pos, af, gd⟩ st K → ∃ d, K d ∧ ∀ w σ (a : Act), Inv w σ st.h → (∀ t, looks ops ⟨dst, op, ty, pos, af, gd⟩ t → Rep w (own σ st.h) σ st.h (st.fr t) (a.tmps.getD t undef)) →
      (Region.wanted ⟨dst, op, ty, pos, af, gd⟩ (yielded ops.toArray a.tmps) = true → OpRes P ⟨dst, op, ty, pos, af, gd⟩ a w fun v w' => ∃ σ', Inv w' σ' st.h ∧ Rep w' (own σ' st.h) σ' st.h d v ∧ Step w σ st.h w' σ' st.h) ∧
      (Region.wanted ⟨dst, op, ty, pos, af, gd⟩ (yielded ops.toArray a.tmps) = false → Rep w (own σ st.h) σ st.h d undef) := by
    rintro ⟨h1, h2⟩
    refine ⟨_, h2, fun w σ a hi hf => ⟨fun hw => ?_, hfalse _ w σ a hf⟩⟩
    have hwt := wanted_eq (o := ⟨dst, op, ty, pos, af, gd⟩) (ops := ops) (fun j p t e1 e2 => hf t (.inr ⟨j, p, e1, e2⟩)) hg
    rw [hwt] at hw
    obtain ⟨v, e1, e2⟩ := pure_sound (o := ⟨dst, op, ty, pos, af, gd⟩) hi (fun t ht => hf t (.inl ht)) (h1 hw)
    exact .inl ⟨v, w, e1, σ, hi, rep_wrap gd e2 hw, .refl w σ st.h⟩
  cases op with
  | call c =>
    obtain ⟨callee, args, ts⟩ := c
    cases callee with
    | value f =>
      obtain ⟨d, as, h1, h2⟩ := hq
      refine ⟨_, h2, fun w σ a hi hf => ⟨fun hw => ?_, hfalse _ w σ a hf⟩⟩
      have hwt := wanted_eq (o := ⟨dst, .call ⟨.value f, args, ts⟩, ty, pos, af, gd⟩) (ops := ops) (fun j p t e1 e2 => hf t (.inr ⟨j, p, e1, e2⟩)) hg
      rw [hwt] at hw
      obtain ⟨k1, k2, k3, ⟨k4, k5⟩, k6⟩ := h1 hw
      have hfn := rep_vl (a := a) (fr := st.fr) (x := f) (fun t e => hf t (.inl (by simp [looksTo, Op.operands, Call.operands, e]))) k1
      revert hfn k2 k4 k5 k6
      generalize vl st.fr f = fd
      intro k2 k6 k4 k5 hfn
      generalize hev : a.eval f = fv at hfn
      cases hfn with
      | fn g caps vs hl hr =>
        have hargs : RepL w (own σ st.h) σ st.h (args.toList.map (vl st.fr) ++ caps) (args.toList.map a.eval ++ vs) := by
          refine RepL.append ⟨by simp, fun k h1 h2 => ?_⟩ ⟨hl, hr⟩
          simp only [List.getElem_map]
          have hm : args.toList[k]'(by simpa using h1) ∈ args.toList := List.getElem_mem _
          exact rep_vl (fun t e => hf t (.inl (by
            simp only [looksTo, Op.operands, Call.operands, ← e]
            simp only [Array.mem_append]
            exact .inr (Array.mem_toList_iff.1 hm)))) (k3 _ hm)
        have hc := k5 w σ _ hi (hargs.wk k6)
        refine .inr (.inr ⟨g, (args.toList.map a.eval ++ vs).toArray, ?_, hc.mono fun e w' ⟨v, he, d', h', σ', ⟨q1, q2⟩, q3, q4, q5⟩ => ⟨v, he, σ', ?_, ?_, ?_⟩⟩)
        · have := k4 (args.map a.eval ++ vs.toArray) w
          simp only [fnId] at this
          have e : (args.toList.map a.eval ++ vs).toArray = args.map a.eval ++ vs.toArray := by apply Array.ext'; simp
          rw [e]
          simp [execOp, resolve, Deferred.ofValue, hev, invoke, this]
        · exact q2 ▸ q3
        · subst q1 q2; exact rep_wrap gd q4 hw
        · exact q2 ▸ q5
      | _ => exact absurd k2 (by simp [isFn])
    | _ => exact hpure hq
  | _ => exact hpure hq
end
end Go.Av

/- The operations of a region, one behind the other, with those that make or write memory. -/
namespace Go.Av
set_option linter.unusedSectionVars false
variable [Start]

def appOk (P : Program) (t : TypeId) (es news : List D) : Prop :=
  isSliceK (ti P t).kind ∧ (ti P (ti P t).elem).has = true ∧ 0 < (ti P (ti P t).elem).sz ∧ (ti P (ti P t).elem).zero.length = (ti P (ti P t).elem).sz ∧ AllSz (ti P (ti P t).elem).sz es ∧ AllSz (ti P (ti P t).elem).sz news ∧
    es.length + news.length ≤ lenMax ∧ (es.length + news.length) * (ti P (ti P t).elem).bs ≤ 140737488355328 ∧ ∀ d, d ∈ flat news → cell1 d

omit [Start] in
theorem AppOk.of {P : Program} {t : TypeId} {es news : List D} (h : appOk P t es news) : AppOk P t es news :=
  ⟨h.1, h.2.1, h.2.2.1, h.2.2.2.1, h.2.2.2.2.1, h.2.2.2.2.2.1, h.2.2.2.2.2.2.1, h.2.2.2.2.2.2.2.1⟩

def isBuf : Ob → Nat → Prop
  | .buf n, m => n = m
  | _, _ => False

def appGo (P : Program) (mu : Bool) (t : TypeId) (h : Hp) (s x : D) (K : D → Hp → Prop) : Prop :=
  match s, x with
  | .vec _ _ _ _ _ _, x => if mu then growOk P t h s x ∧ K (growD h s x) (growH h s x) else appVok P t h s x ∧ K (appVd s x) (appVh h s x)
  | .slice es tok, .slice news _ =>
    appOk P t es news ∧
    match tok with
    | .full => if mu then (es = [] ∨ news ≠ []) ∧ K (.vec h.length (isAg (ti P (ti P t).elem).kind) (ti P (ti P t).elem).sz 0 (es.length + news.length) (es.length + news.length)) (h ++ [.row (flat es ++ flat news)]) else K (.slice (es ++ news) (.buf h.length (ti P (ti P t).elem).sz)) (h ++ [.buf ((es.length + news.length) * (ti P (ti P t).elem).sz)])
    | .buf r sz => sz = (ti P (ti P t).elem).sz ∧ isBuf (ob h r) (es.length * (ti P (ti P t).elem).sz) ∧ K (.slice (es ++ news) (.buf r sz)) (h.set r (.buf ((es.length + news.length) * (ti P (ti P t).elem).sz)))
    | .no => False
    | .cap _ => False
  | _, _ => False

def bsGo (P : Program) (mu : Bool) (t : TypeId) (n : Nat) (idx : List Nat) (es : List D) (h : Hp) (K : D → Hp → Prop) : Prop :=
  bsOk P t n idx es ∧
  if mu then K (.vec h.length (isAg (ti P (ti P t).elem).kind) (ti P (ti P t).elem).sz 0 n n) (h ++ [.row (flat es)])
  else (∀ e, e ∈ es → Cl 0 e) ∧ K (.slice es .full) h

def muHas (mu : List Nat) : Option Tmp → Bool
  | some t => mu.contains t
  | none => false

def callGo (P : Program) (st : St) (f : Operand) (args : Array Operand) (K : D → Hp → Prop) : Prop :=
  ok1 st.fr f ∧ isFn (vl st.fr f) ∧ allOk1 st.fr args.toList ∧ ∃ Q as, Meets P (fnId (vl st.fr f)) as st.h Q ∧ WkL (args.toList.map (vl st.fr) ++ fnCaps (vl st.fr f)) as ∧ ∀ d h', Q d h' → K d h'

def app2 (P : Program) (mu : Bool) (st : St) (args : List Operand) (ts : List TypeId) (K : D → Hp → Prop) : Prop :=
  match args, ts with
  | [s, x], [t, t'] => t' = t ∧ ok1 st.fr s ∧ ok1 st.fr x ∧ appGo P mu t st.h (vl st.fr s) (vl st.fr x) K
  | _, _ => False
def intKB : TK → Bool
  | .int _ => true
  | _ => false
/-- append(s, make(..)...) to a slice whose capacity is known and doesn't hold it -/
def appZ (P : Program) (mu : Bool) (t : TypeId) (h : Hp) (s x : D) (K : D → Hp → Prop) : Prop :=
  match s, x with
  | .slice es (.cap c), .int _ k => appOk P t es [] ∧ (0 ≤ k ∧ c < es.length + k.toNat ∧ es.length + k.toNat ≤ lenMax ∧ (es.length + k.toNat) * (ti P (ti P t).elem).bs ≤ 140737488355328) ∧ mu = true ∧
      K (.vec h.length (isAg (ti P (ti P t).elem).kind) (ti P (ti P t).elem).sz 0 (es.length + k.toNat) (es.length + k.toNat)) (h ++ [.row (flat es ++ zeros (ti P (ti P t).elem).zero k.toNat)])
  | _, _ => False
def app3 (P : Program) (mu : Bool) (st : St) (args : List Operand) (ts : List TypeId) (K : D → Hp → Prop) : Prop :=
  match args, ts with
  | [s, x], [t, t'] => if intKB (ti P t').kind = true then ok1 st.fr s ∧ ok1 st.fr x ∧ appZ P mu t st.h (vl st.fr s) (vl st.fr x) K else app2 P mu st [s, x] [t, t'] K
  | _, _ => False
def copy2 (P : Program) (st : St) (args : List Operand) (ts : List TypeId) (K : D → Hp → Prop) : Prop :=
  match args, ts with
  | [s, x], [t, _] => ok1 st.fr s ∧ ok1 st.fr x ∧ copyOk P t st.h (vl st.fr s) (vl st.fr x) ∧ K (copyD (vl st.fr s) (vl st.fr x)) (copyH st.h (vl st.fr s) (vl st.fr x))
  | _, _ => False
def clear2 (P : Program) (st : St) (args : List Operand) (ts : List TypeId) (K : D → Hp → Prop) : Prop :=
  match args, ts with
  | [s], [t] => ok1 st.fr s ∧ clearOk P t st.h (vl st.fr s) ∧ K .junk (clearH P t st.h (vl st.fr s))
  | _, _ => False
/-- Is a slice nil, or not? -/
def nilGo (P : Program) (st : St) (b : BinOp) (t : TypeId) (x : Operand) (K : D → Hp → Prop) : Prop :=
  match b with
  | .eql => ok1 st.fr x ∧ nilOk P t (vl st.fr x) ∧ (srcN (vl st.fr x) = 0 → K (.bool true) st.h) ∧ K (.bool false) st.h
  | .neq => ok1 st.fr x ∧ nilOk P t (vl st.fr x) ∧ (srcN (vl st.fr x) = 0 → K (.bool false) st.h) ∧ K (.bool true) st.h
  | _ => False
def isNilS : Operand → Bool
  | .const (.slice none 0 0) => true
  | _ => false

def loudOp (P : Program) (mu : List Nat) (o : Oper) (st : St) (K : D → Hp → Prop) : Prop :=
  match o.op with
  | .alloc t => (ti P t).zero.isEmpty = false ∧ K (.ptr st.h.length 0) (st.h ++ [.row (ti P t).zero])
  | .box _ x => ok1 st.fr x ∧ solid (vl st.fr x) ∧ K (.ptr st.h.length 0) (st.h ++ [.row (vl st.fr x).cells])
  | .store t x y => ok1 st.fr x ∧ ok1 st.fr y ∧ storeOk P t st.h (vl st.fr x) (vl st.fr y) ∧ K .junk (storeH st.h (vl st.fr x) (vl st.fr y))
  | .buildSlice t n parts => allOk1 st.fr (parts.toList.map (·.2)) ∧ bsGo P (muHas mu o.dst) t n (parts.toList.map (·.1)) (parts.toList.map fun p => vl st.fr p.2) st.h K
  | .makeSlice t n c => if muHas mu o.dst = true then ok1 st.fr n ∧ ok1 st.fr c ∧ mk0Ok P t (vl st.fr n) (vl st.fr c) ∧ K (.slice [] (.buf st.h.length (ti P (ti P t).elem).sz)) (st.h ++ [.buf 0]) else ok1 st.fr n ∧ ok1 st.fr c ∧ mkOk P t (vl st.fr n) (vl st.fr c) ∧ K (.vec st.h.length (isAg (ti P (ti P t).elem).kind) (ti P (ti P t).elem).sz 0 (iof (vl st.fr n)).toNat (iof (vl st.fr n)).toNat) (st.h ++ [.row (zeros (ti P (ti P t).elem).zero (iof (vl st.fr n)).toNat)])
  | .call ⟨.builtin .append, args, ts⟩ => app3 P (muHas mu o.dst) st args.toList ts.toList K
  | .call ⟨.builtin .copy, args, ts⟩ => copy2 P st args.toList ts.toList K
  | .call ⟨.builtin .clear, args, ts⟩ => clear2 P st args.toList ts.toList K
  | .binOp b t x (.const (.slice none 0 0)) _ => nilGo P st b t x K
  | .call ⟨.value f, args, _⟩ => callGo P st f args K
  | _ => False

/-- Operations that may change the objects. -/
def isLoud : Op → Bool
  | .alloc _ | .box _ _ | .store _ _ _ | .buildSlice _ _ _ | .makeSlice _ _ _ => true
  | .call ⟨.builtin .append, _, _⟩ => true
  | .call ⟨.builtin .copy, _, _⟩ => true
  | .call ⟨.builtin .clear, _, _⟩ => true
  | .binOp _ _ _ y _ => isNilS y
  | .call ⟨.value _, _, _⟩ => true
  | _ => false

/-- A guarded call that may turn objects: mu names it by 2000000 and its slot. -/
def muG (mu : List Nat) : Option Tmp → Bool
  | some t => mu.contains (2000000 + t)
  | none => false
def isCallV : Op → Bool
  | .call ⟨.value _, _, _⟩ => true
  | _ => false
def isConv : Op → Bool
  | .convert _ _ _ => true
  | _ => false
/-- Bytes made of a text, in a buffer of their own. -/
def muRow (mu : List Nat) : Option Tmp → Bool
  | some t => mu.contains (4000000 + t)
  | none => false
def convGo (P : Program) (mu : List Nat) (d : Option Tmp) (st : St) (op : Op) (K : D → Hp → Prop) : Prop :=
  match op with
  | .convert src dst x => ok1 st.fr x ∧ bytesOk P src dst (vl st.fr x) ∧ if muRow mu d = true then K (.vec st.h.length false 1 0 (bytesD (vl st.fr x)).length (bytesD (vl st.fr x)).length) (st.h ++ [.row (bytesD (vl st.fr x))])
    else K (.slice (bytesD (vl st.fr x)) (.buf st.h.length 1)) (st.h ++ [.buf (bytesD (vl st.fr x)).length])
  | _ => False
def evOp (P : Program) (mu : List Nat) (ops : List Oper) (o : Oper) (st : St) (K : St → Prop) : Prop :=
  match o.guard, isLoud o.op with
  | none, true => loudOp P mu o st fun d h => K ⟨putO st.fr o.dst d, h⟩
  | none, false => if (isConv o.op && muHas mu o.dst) = true then convGo P mu o.dst st o.op fun d h => K ⟨putO st.fr o.dst d, h⟩ else quietOp P ops o st fun d => K ⟨putO st.fr o.dst d, st.h⟩
  | some g, _ => if (muG mu o.dst && isCallV o.op) = true then gok st.fr ops (some g) ∧ (gcond st.fr ops (some g) = true → loudOp P mu o st fun d h => K ⟨putO st.fr o.dst d, h⟩) ∧ (gcond st.fr ops (some g) = false → quietOp P ops o st fun d => K ⟨putO st.fr o.dst d, st.h⟩)
    else quietOp P ops o st fun d => K ⟨putO st.fr o.dst d, st.h⟩

def evOps (P : Program) (mu : List Nat) (ops : List Oper) : List Oper → St → (St → Prop) → Prop
  | [], st, K => K st
  | o :: rest, st, K => evOp P mu ops o st fun st' => evOps P mu ops rest st' K

/-- The state of a call stands for a world and a frame. -/
structure Cnc (n : Nat) (w : World) (σ : Sg) (a : Act) (st : St) : Prop where
  inv : Inv w σ st.h
  defers : a.defers = []
  size : a.tmps.size = n
  fr : ∀ t, Rep w (own σ st.h) σ st.h (st.fr t) (a.tmps.getD t undef)

def dstOk (n : Nat) (o : Oper) : Bool :=
  match o.dst with
  | some t => decide (t < n)
  | none => true

section
variable {P : Program} {w : World} {σ : Sg} {st : St} {a : Act} {n : Nat}

omit [Start] in
theorem put_tmps (a : Act) (t : Nat) (v : Value) (u : Nat) (ht : t < a.tmps.size) : (a.put (some t) v).tmps.getD u undef = if u = t then v else a.tmps.getD u undef := by
  simp only [Act.put, Array.getD_eq_getD_getElem?, Array.getElem?_setIfInBounds]
  by_cases e : t = u
  · subst e; simp [ht]
  · simp [e, Ne.symm e]

theorem Cnc.put {w' : World} {σ' : Sg} {h' : Hp} {d : D} {v : Value} {dst : Option Tmp} (H : Cnc n w σ a st) (hs : Step w σ st.h w' σ' h') (hi : Inv w' σ' h') (hd : Rep w' (own σ' h') σ' h' d v) (hk : ∀ t, dst = some t → t < n) :
    Cnc n w' σ' (a.put dst v) ⟨putO st.fr dst d, h'⟩ := by
  cases dst with
  | none => exact ⟨hi, H.defers, H.size, fun t => (H.fr t).step hs⟩
  | some t =>
    have ht := hk t rfl
    refine ⟨hi, by simp [Act.put, H.defers], by simp [Act.put, H.size], fun u => ?_⟩
    rw [put_tmps a t v u (by rw [H.size]; exact ht)]
    simp only [putO, Av.put]
    split
    · exact hd
    · exact (H.fr u).step hs

theorem loud_sound {mu : List Nat} {o : Oper} {K : D → Hp → Prop} (H : Cnc n w σ a st) (hq : loudOp P mu o st K) :
    OpRes P o a w fun v w' => ∃ d h' σ', K d h' ∧ Inv w' σ' h' ∧ Rep w' (own σ' h') σ' h' d v ∧ Step w σ st.h w' σ' h' := by
  obtain ⟨dst, op, ty, pos, af, gd⟩ := o
  have V : ∀ x, ok1 st.fr x → Rep w (own σ st.h) σ st.h (vl st.fr x) (a.eval x) := fun x hk => rep_vl (fun t _ => H.fr t) hk
  cases op with
  | alloc t =>
    obtain ⟨v, w', s, h1, h2, h3, h4⟩ := alloc_sound (P := P) H.inv hq.1
    exact .inl ⟨v, w', by simp [execOp, h1], _, _, _, hq.2, h2, h4, h3⟩
  | box t x =>
    obtain ⟨k1, k2, k3⟩ := hq
    obtain ⟨v, w', s, h1, h2, h3, h4⟩ := box_sound (P := P) (t := t) H.inv (V x k1) k2
    exact .inl ⟨v, w', by simp [execOp, h1], _, _, _, k3, h2, h4, h3⟩
  | store t x y =>
    obtain ⟨k1, k2, k3, k4⟩ := hq
    obtain ⟨w', h1, h2, h3⟩ := store_sound (P := P) H.inv (V x k1) (V y k2) k3
    exact .inr (.inl ⟨w', by simp [execOp, h1], _, _, _, k4, h2, .junk _, h3⟩)
  | buildSlice t m parts =>
    obtain ⟨k1, k2, k3⟩ := hq
    have hl : (parts.map fun p => (p.1, a.eval p.2)).toList.length = (parts.toList.map fun p => vl st.fr p.2).length := by simp
    have hr : ∀ (k : Nat) (h1 : k < (parts.toList.map fun p => vl st.fr p.2).length) (h2 : k < (parts.map fun p => (p.1, a.eval p.2)).toList.length),
        Rep w (own σ st.h) σ st.h ((parts.toList.map fun p => vl st.fr p.2)[k]) ((parts.map fun p => (p.1, a.eval p.2)).toList[k]).2 := by
      intro k h1 h2
      simp only [Array.toList_map, List.getElem_map]
      have hm : parts.toList[k]'(by simpa using h1) ∈ parts.toList := List.getElem_mem _
      exact V _ (k1 _ (List.mem_map.2 ⟨_, hm, rfl⟩))
    have hidx : (parts.map fun p => (p.1, a.eval p.2)).toList.map (·.1) = parts.toList.map (·.1) := by simp
    split at k3
    · obtain ⟨v, w', s, h1, h2, h3, h4⟩ := bs_row (P := P) (t := t) (n := m) H.inv (by rw [hidx]; exact k2) hl hr (isAg (ti P (ti P t).elem).kind)
      exact .inl ⟨v, w', by simp [execOp, h1], _, _, _, k3, h2, h4, h3⟩
    · obtain ⟨v, w', h1, h2, h3, h4⟩ := bs_pure (P := P) (t := t) (n := m) H.inv (by rw [hidx]; exact k2) hl hr k3.1
      exact .inl ⟨v, w', by simp [execOp, h1], _, _, _, k3.2, h2, h4, h3⟩
  | makeSlice t n c =>
    simp only [loudOp] at hq
    split at hq
    · obtain ⟨k1, k2, k3, k4⟩ := hq
      obtain ⟨v, w', s, h1, h2, h3, h4⟩ := make0_sound (P := P) H.inv (V n k1) (V c k2) k3
      exact .inl ⟨v, w', by simp [execOp, h1], _, _, _, k4, h2, h4, h3⟩
    obtain ⟨k1, k2, k3, k4⟩ := hq
    obtain ⟨v, w', s, h1, h2, h3, h4⟩ := make_sound (P := P) H.inv (V n k1) (V c k2) k3 (isAg (ti P (ti P t).elem).kind)
    exact .inl ⟨v, w', by simp [execOp, h1], _, _, _, k4, h2, h4, h3⟩
  | call c =>
    obtain ⟨callee, args, ts⟩ := c
    cases callee with
    | value f =>
      obtain ⟨k1, k2, k3, Q, as, ⟨k4, k5⟩, k7, k6⟩ := hq
      have hfn := V f k1
      revert hfn k2 k4 k5 k7
      generalize vl st.fr f = fd
      intro k2 k4 k5 k7 hfn
      generalize hev : a.eval f = fv at hfn
      cases hfn with
      | fn g caps vs hl hr =>
        have hargs : RepL w (own σ st.h) σ st.h (args.toList.map (vl st.fr) ++ caps) (args.toList.map a.eval ++ vs) := by
          refine RepL.append ⟨by simp, fun k h1 h2 => ?_⟩ ⟨hl, hr⟩
          simp only [List.getElem_map]
          exact V _ (k3 _ (List.getElem_mem _))
        have hc := k5 w σ _ H.inv (hargs.wk k7)
        refine .inr (.inr ⟨g, (args.toList.map a.eval ++ vs).toArray, ?_, hc.mono fun e w' ⟨v, he, d', h', σ', q1, q3, q4, q5⟩ => ⟨v, he, d', h', σ', k6 _ _ q1, q3, q4, q5⟩⟩)
        have := k4 (args.map a.eval ++ vs.toArray) w
        simp only [fnId] at this
        have e : (args.toList.map a.eval ++ vs).toArray = args.map a.eval ++ vs.toArray := by apply Array.ext'; simp
        rw [e]
        simp [execOp, resolve, Deferred.ofValue, hev, invoke, this]
      | _ => exact absurd k2 (by simp [isFn])
    | builtin b =>
      cases b with
      | append =>
        obtain ⟨args⟩ := args
        obtain ⟨ts⟩ := ts
        simp only [loudOp, app3] at hq
        match args, ts, hq with
        | [s, x], [t, t'], hq =>
          have hq0 : (if intKB (ti P t').kind = true then ok1 st.fr s ∧ ok1 st.fr x ∧ appZ P (muHas mu dst) t st.h (vl st.fr s) (vl st.fr x) K else app2 P (muHas mu dst) st [s, x] [t, t'] K) := hq
          clear hq
          split at hq0
          · rename_i hint
            obtain ⟨k1, k2, k3⟩ := hq0
            have hs := V s k1
            have hx := V x k2
            obtain ⟨kt, hkt⟩ : ∃ k, (ti P t').kind = .int k := by
              revert hint
              cases (ti P t').kind <;> simp [intKB]
            have hrun : ∀ u w', (Builtin.append_ #[t, t'] ty #[a.eval s, a.eval x]).run P w = .ok u w' → (execOp a.eval ⟨dst, .call ⟨.builtin .append, #[s, x], #[t, t']⟩, ty, pos, af, gd⟩).run P w = .ok (.value u) w' := by
              intro u w' h
              simp [execOp, resolve, invoke, builtin, h]
            revert hs hx k3
            generalize vl st.fr s = sd
            generalize vl st.fr x = xd
            intro k3 hs hx
            unfold appZ at k3
            split at k3
            · obtain ⟨g1, ⟨g2, g3, g4, g5⟩, g6, g7⟩ := k3
              obtain ⟨u, w', σ', e1, e2, e3, e4⟩ := app_newZ (P := P) (ty := ty) H.inv hs hx (AppOk.of g1) (ti_int hkt) g2 g3 g4 g5 (isAg (ti P (ti P t).elem).kind)
              exact .inl ⟨u, w', hrun _ _ e1, _, _, _, g7, e2, e4, e3⟩
            · exact k3.elim
          have hq := hq0
          simp only [app2] at hq
          obtain ⟨rfl, k1, k2, k3⟩ := hq
          have hs := V s k1
          have hx := V x k2
          revert hs hx k3
          generalize vl st.fr s = sd
          generalize vl st.fr x = xd
          intro k3 hs hx
          have hrun : ∀ u w', (Builtin.append_ #[t', t'] ty #[a.eval s, a.eval x]).run P w = .ok u w' → (execOp a.eval ⟨dst, .call ⟨.builtin .append, #[s, x], #[t', t']⟩, ty, pos, af, gd⟩).run P w = .ok (.value u) w' := by
            intro u w' h
            simp [execOp, resolve, invoke, builtin, h]
          cases sd with
          | vec r ag sz off len cp =>
            have k3' : if muHas mu dst then growOk P t' st.h (.vec r ag sz off len cp) xd ∧ K (growD st.h (.vec r ag sz off len cp) xd) (growH st.h (.vec r ag sz off len cp) xd) else appVok P t' st.h (.vec r ag sz off len cp) xd ∧ K (appVd (.vec r ag sz off len cp) xd) (appVh st.h (.vec r ag sz off len cp) xd) := by
              cases xd <;> exact k3
            split at k3'
            · obtain ⟨u, w', σ', e1, e2, e3, e4⟩ := app_grow (P := P) (ty := ty) H.inv hs hx k3'.1
              exact .inl ⟨u, w', hrun _ _ e1, _, _, _, k3'.2, e2, e4, e3⟩
            obtain ⟨u, w', e1, e2, e3, e4⟩ := app_vec (P := P) (ty := ty) H.inv hs hx k3'.1
            exact .inl ⟨u, w', hrun _ _ e1, _, _, _, k3'.2, e2, e4, e3⟩
          | slice es tok =>
            cases xd with
            | slice news t2 =>
              obtain ⟨g1, g2⟩ := k3
              cases tok with
              | no => exact absurd g2 id
              | cap c => exact absurd g2 id
              | full =>
                simp only at g2
                split at g2
                · obtain ⟨u, w', σ', e1, e2, e3, e4⟩ := app_new (P := P) (ty := ty) H.inv hs hx (AppOk.of g1) g2.1 (isAg (ti P (ti P t').elem).kind)
                  exact .inl ⟨u, w', hrun _ _ e1, _, _, _, g2.2, e2, e4, e3⟩
                obtain ⟨u, w', σ', e1, e2, e3, e4⟩ := app_full (P := P) (ty := ty) H.inv hs hx (AppOk.of g1)
                exact .inl ⟨u, w', hrun _ _ e1, _, _, _, g2, e2, e4, e3⟩
              | buf r sz =>
                obtain ⟨rfl, g3, g4⟩ := g2
                have hob : st.h[r]? = some (.buf (es.length * (ti P (ti P t').elem).sz)) := by
                  revert g3
                  unfold ob
                  rw [List.getD_eq_getElem?_getD]
                  cases hh : st.h[r]? with
                  | none => simp [isBuf]
                  | some x => cases x <;> simp [isBuf]
                obtain ⟨u, w', σ', e1, e2, e3, e4⟩ := app_buf (P := P) (ty := ty) H.inv hs hx (AppOk.of g1) g1.2.2.2.2.2.2.2.2 hob
                exact .inl ⟨u, w', hrun _ _ e1, _, _, _, g4, e2, e4, e3⟩
            | _ => exact absurd k3 id
          | _ => exact absurd k3 id
      | copy =>
        obtain ⟨args⟩ := args
        obtain ⟨ts⟩ := ts
        simp only [loudOp, copy2] at hq
        match args, ts, hq with
        | [s, x], [t, t'], hq =>
          obtain ⟨k1, k2, k3, k4⟩ := hq
          obtain ⟨u, w', e1, e2, e3, e4⟩ := copy_sound (P := P) (t' := t') (ty := ty) H.inv (V s k1) (V x k2) k3
          exact .inl ⟨u, w', by simp [execOp, resolve, invoke, builtin, e1], _, _, _, k4, e2, e4, e3⟩
      | clear =>
        obtain ⟨args⟩ := args
        obtain ⟨ts⟩ := ts
        simp only [loudOp, clear2] at hq
        match args, ts, hq with
        | [s], [t], hq =>
          obtain ⟨k1, k3, k4⟩ := hq
          obtain ⟨u, w', e1, e2, e3⟩ := clear_sound (P := P) (ty := ty) H.inv (V s k1) k3
          exact .inl ⟨u, w', by simp [execOp, resolve, invoke, builtin, e1], _, _, _, k4, e2, .junk _, e3⟩
      | _ => exact absurd hq id
    | _ => exact absurd hq id
  | binOp b t x y u =>
    have hy : y = .const (.slice none 0 0) ∧ nilGo P st b t x K := by
      cases y with
      | const c =>
        cases c with
        | slice ad n cap =>
          cases ad with
          | none =>
            cases n with
            | zero =>
              cases cap with
              | zero => exact ⟨rfl, hq⟩
              | succ c => exact absurd hq id
            | succ n => exact absurd hq id
          | some ad => exact absurd hq id
        | _ => exact absurd hq id
      | _ => exact absurd hq id
    obtain ⟨rfl, hq⟩ := hy
    cases b with
    | eql =>
      obtain ⟨k1, k2, k3, k4⟩ := hq
      obtain ⟨b, e1, e2, e3⟩ := nil_sound (P := P) (ox := x) (oy := .const (.slice none 0 0)) (V x k1) k2
      cases b with
      | true => exact .inl ⟨_, w, value_run e1, _, _, _, k3 (e3 rfl), H.inv, .bool _, .refl w σ st.h⟩
      | false => exact .inl ⟨_, w, value_run e1, _, _, _, k4, H.inv, .bool _, .refl w σ st.h⟩
    | neq =>
      obtain ⟨k1, k2, k3, k4⟩ := hq
      obtain ⟨b, e1, e2, e3⟩ := nil_sound (P := P) (ox := x) (oy := .const (.slice none 0 0)) (V x k1) k2
      cases b with
      | true => exact .inl ⟨_, w, value_run e2, _, _, _, k3 (e3 rfl), H.inv, .bool _, .refl w σ st.h⟩
      | false => exact .inl ⟨_, w, value_run e2, _, _, _, k4, H.inv, .bool _, .refl w σ st.h⟩
    | _ => exact absurd hq id
  | _ => exact absurd hq id

theorem convB_sound {mu : List Nat} {o : Oper} {K : D → Hp → Prop} (H : Cnc n w σ a st) (hq : convGo P mu o.dst st o.op K) :
    OpRes P o a w fun v w' => ∃ d h' σ', K d h' ∧ Inv w' σ' h' ∧ Rep w' (own σ' h') σ' h' d v ∧ Step w σ st.h w' σ' h' := by
  obtain ⟨dst, op, ty, pos, af, gd⟩ := o
  cases op with
  | convert src t x =>
    obtain ⟨k1, h2, h3⟩ := hq
    have hv : Rep w (own σ st.h) σ st.h (vl st.fr x) (a.eval x) := rep_vl (fun t _ => H.fr t) k1
    revert hv h2 h3
    generalize vl st.fr x = xd
    intro h2 h3 hv
    cases xd with
    | str s =>
      generalize hev : a.eval x = xv at hv
      cases hv with
      | str _ hl =>
        cases hm : muRow mu dst with
        | false =>
          simp only [hm, Bool.false_eq_true, if_false] at h3
          obtain ⟨v, w', q, e1, e2, e3, e4⟩ := conv_bytes_buf (P := P) H.inv hl h2
          exact .inl ⟨v, w', by simp [execOp, hev, e1], _, _, _, h3, e2, e4, e3⟩
        | true =>
          simp only [hm, if_true] at h3
          obtain ⟨v, w', q, e1, e2, e3, e4⟩ := conv_bytes_row (P := P) H.inv hl h2
          exact .inl ⟨v, w', by simp [execOp, hev, e1], _, _, _, h3, e2, e4, e3⟩
    | _ => exact h2.elim
  | _ => exact hq.elim

theorem op_sound {mu : List Nat} {ops : List Oper} {o : Oper} {K : St → Prop} (H : Cnc n w σ a st) (hd : dstOk n o = true) (hq : evOp P mu ops o st K) {Q : Exit → Act → World → Prop} {next : Act → World → Prop}
    (hn : ∀ st' σ' a' w', K st' → Cnc n w' σ' a' st' → Step w σ st.h w' σ' st'.h → next a' w') :
    if Region.wanted o (yielded ops.toArray a.tmps) then o.wp P a w next Q else next (a.put o.dst undef) w := by
  have hdst : ∀ t, o.dst = some t → t < n := by
    intro t e
    simp only [dstOk, e, decide_eq_true_eq] at hd
    exact hd
  have hquiet : quietOp P ops o st (fun d => K ⟨putO st.fr o.dst d, st.h⟩) → if Region.wanted o (yielded ops.toArray a.tmps) then o.wp P a w next Q else next (a.put o.dst undef) w := by
    intro hq
    obtain ⟨d, h1, h2⟩ := quiet_sound hq
    obtain ⟨h3, h4⟩ := h2 w σ a H.inv (fun t _ => H.fr t)
    cases hw : Region.wanted o (yielded ops.toArray a.tmps) with
    | true =>
      simp only [if_true]
      exact (h3 hw).wp fun v w' ⟨σ', q1, q2, q3⟩ => hn _ σ' _ w' h1 (H.put q3 q1 q2 hdst) q3
    | false =>
      simp only [Bool.false_eq_true, if_false]
      exact hn _ σ _ w h1 (H.put (.refl w σ st.h) H.inv (h4 hw) hdst) (.refl w σ st.h)
  unfold evOp at hq
  split at hq
  · rename_i hg _
    have hw : Region.wanted o (yielded ops.toArray a.tmps) = true := by simp [Region.wanted, hg]
    rw [hw]
    simp only [if_true]
    exact (loud_sound H hq).wp fun v w' ⟨d, h', σ', q0, q1, q2, q3⟩ => hn _ σ' _ w' q0 (H.put q3 q1 q2 hdst) q3
  · rename_i hg _
    split at hq
    · have hw : Region.wanted o (yielded ops.toArray a.tmps) = true := by simp [Region.wanted, hg]
      rw [hw]
      simp only [if_true]
      exact (convB_sound H hq).wp fun v w' ⟨d, h', σ', q0, q1, q2, q3⟩ => hn _ σ' _ w' q0 (H.put q3 q1 q2 hdst) q3
    · exact hquiet hq
  · rename_i g hg
    split at hq
    · obtain ⟨g1, g2, g3⟩ := hq
      have hwe := wanted_eq (o := o) (fun j p t _ _ => H.fr t) (by rw [hg]; exact g1)
      rw [hg] at hwe
      cases hc : gcond st.fr ops (some g) with
      | true =>
        rw [hwe, hc]
        simp only [if_true]
        exact (loud_sound H (g2 hc)).wp fun v w' ⟨d, h', σ', q0, q1, q2, q3⟩ => hn _ σ' _ w' q0 (H.put q3 q1 q2 hdst) q3
      | false => exact hquiet (g3 hc)
    · exact hquiet hq

theorem ops_sound {mu : List Nat} {ops : List Oper} {Q : Exit → Act → World → Prop} : ∀ (rest : List Oper) (st : St) (K : St → Prop), (rest.all (dstOk n)) = true → evOps P mu ops rest st K → ∀ w σ a, Cnc n w σ a st →
    (∀ st' σ' a' w', K st' → Cnc n w' σ' a' st' → Step w σ st.h w' σ' st'.h → Q .normal a' w') → wpList P ops.toArray Q rest a w
  | [], st, K, _, hk, w, σ, a, H, hQ => hQ st σ a w hk H (.refl w σ st.h)
  | o :: rest, st, K, hd, hk, w, σ, a, H, hQ => by
    simp only [List.all_cons, Bool.and_eq_true] at hd
    refine wpList_step fun K' hK' => ?_
    refine op_sound H hd.1 hk fun st' σ' a' w' k1 k2 k3 => hK' _ _ ?_
    exact ops_sound rest st' K hd.2 k1 w' σ' a' k2 fun st'' σ'' a'' w'' q1 q2 q3 => hQ st'' σ'' a'' w'' q1 q2 (k3.trans q3)
end
end Go.Av

/- Regions that draw their order: the lexical order serves every order. -/
namespace Go.Av
set_option linter.unusedSectionVars false
variable [Start]

/-- What a quiet operation yields. -/
def quietY (P : Program) (ops : List Oper) (o : Oper) (st : St) (d : D) : Prop :=
  gok st.fr ops o.guard ∧
  if isG P o.op = true then o.guard = none ∧ gY P st o.op d else
  match o.op with
  | .call ⟨.value f, args, _⟩ => ∃ d0 as, (gcond st.fr ops o.guard = true → ok1 st.fr f ∧ isFn (vl st.fr f) ∧ allOk1 st.fr args.toList ∧ Gives P (fnId (vl st.fr f)) as st.h d0 ∧ WkL (args.toList.map (vl st.fr) ++ fnCaps (vl st.fr f)) as) ∧ d = wrapG (gcond st.fr ops o.guard) o.guard d0
  | _ => (gcond st.fr ops o.guard = true → pureOk P st o.op) ∧ d = wrapG (gcond st.fr ops o.guard) o.guard (pureD P st o.op)

section
variable {P : Program} {ops : List Oper} {st : St} {a : Act}

theorem quietOp_iff {o : Oper} {K : D → Prop} : quietOp P ops o st K ↔ ∃ d, quietY P ops o st d ∧ K d := by
  obtain ⟨dst, op, ty, pos, af, gd⟩ := o
  by_cases hG : isG P op = true
  · unfold quietOp quietY
    simp only [hG, if_true]
    constructor
    · rintro ⟨h1, h2, d, h3, h4⟩; exact ⟨d, ⟨h1, h2, h3⟩, h4⟩
    · rintro ⟨d, ⟨h1, h2, h3⟩, h4⟩; exact ⟨h1, h2, d, h3, h4⟩
  unfold quietOp quietY
  simp only [hG]
  have hp : (gok st.fr ops gd ∧ quietPure P ops ⟨dst, op, ty, pos, af, gd⟩ st K) ↔ ∃ d, (gok st.fr ops gd ∧ ((gcond st.fr ops gd = true → pureOk P st op) ∧ d = wrapG (gcond st.fr ops gd) gd (pureD P st op))) ∧ K d := by
    constructor
    · rintro ⟨h1, h2, h3⟩; exact ⟨_, ⟨h1, h2, rfl⟩, h3⟩
    · rintro ⟨d, ⟨h1, h2, rfl⟩, h3⟩; exact ⟨h1, h2, h3⟩
  cases op with
  | call c =>
    obtain ⟨callee, args, ts⟩ := c
    cases callee with
    | value f =>
      constructor
      · rintro ⟨h1, d, as, h2, h3⟩; exact ⟨_, ⟨h1, d, as, h2, rfl⟩, h3⟩
      · rintro ⟨d, ⟨h1, d0, as, h2, rfl⟩, h3⟩; exact ⟨h1, d0, as, h2, h3⟩
    | _ => exact hp
  | _ => exact hp

omit [Start] in
theorem opd_congr {fr fr' : Fr} {x : Operand} (h : ∀ t, x = .tmp t → fr t = fr' t) : opd fr x = opd fr' x := by
  cases x with
  | tmp t => exact h t rfl
  | _ => rfl
omit [Start] in
theorem vl_congr {fr fr' : Fr} {x : Operand} (h : ∀ t, x = .tmp t → fr t = fr' t) : vl fr x = vl fr' x := by simp only [vl, opd_congr h]
omit [Start] in
theorem ok1_congr {fr fr' : Fr} {x : Operand} (h : ∀ t, x = .tmp t → fr t = fr' t) : ok1 fr x = ok1 fr' x := by simp only [ok1, opd_congr h]

omit [Start] in
theorem gval_congr {fr fr' : Fr} {j : Nat} (h : ∀ t, gslot ops j = some t → fr t = fr' t) : gval fr ops j = gval fr' ops j := by
  unfold gval
  split
  · rename_i t ht; exact h t ht
  · rfl
omit [Start] in
theorem gcond_congr {fr fr' : Fr} {g : Option (Nat × Bool)} (h : ∀ j p t, g = some (j, p) → gslot ops j = some t → fr t = fr' t) : gcond fr ops g = gcond fr' ops g := by
  cases g with
  | none => rfl
  | some jp => obtain ⟨j, p⟩ := jp; simp only [gcond, gval_congr (h j p · rfl)]
omit [Start] in
theorem gok_congr {fr fr' : Fr} {g : Option (Nat × Bool)} (h : ∀ j p t, g = some (j, p) → gslot ops j = some t → fr t = fr' t) : gok fr ops g = gok fr' ops g := by
  cases g with
  | none => rfl
  | some jp => obtain ⟨j, p⟩ := jp; simp only [gok, gval_congr (h j p · rfl)]

omit [Start] in
theorem map_vl_congr {fr fr' : Fr} {l : List Operand} (h : ∀ x, x ∈ l → ∀ t, x = .tmp t → fr t = fr' t) : l.map (vl fr) = l.map (vl fr') := List.map_congr_left fun x hx => vl_congr (h x hx)
omit [Start] in
theorem allOk1_congr {fr fr' : Fr} {l : List Operand} (h : ∀ x, x ∈ l → ∀ t, x = .tmp t → fr t = fr' t) : allOk1 fr l = allOk1 fr' l := by
  apply propext
  unfold allOk1
  constructor <;> intro H x hx
  · rw [← ok1_congr (h x hx)]; exact H x hx
  · rw [ok1_congr (h x hx)]; exact H x hx

omit [Start] in
theorem pure_congr {fr fr' : Fr} {h : Hp} {op : Op} (H : ∀ t, looksTo op t → fr t = fr' t) : pureD P ⟨fr, h⟩ op = pureD P ⟨fr', h⟩ op ∧ pureOk P ⟨fr, h⟩ op = pureOk P ⟨fr', h⟩ op := by
  have E : ∀ x, x ∈ op.operands → ∀ t, x = .tmp t → fr t = fr' t := fun x hx t e => H t (by unfold looksTo; rw [← e]; exact hx)
  have V : ∀ x, x ∈ op.operands → vl fr x = vl fr' x := fun x hx => vl_congr (E x hx)
  have O : ∀ x, x ∈ op.operands → ok1 fr x = ok1 fr' x := fun x hx => ok1_congr (E x hx)
  have M : ∀ x : Option Operand, (∀ y, x = some y → y ∈ op.operands) → x.map (vl fr) = x.map (vl fr') ∧ okO fr x = okO fr' x := by
    intro x hx
    cases x with
    | none => exact ⟨rfl, rfl⟩
    | some y => exact ⟨by simp [V y (hx y rfl)], O y (hx y rfl)⟩
  cases op with
  | move x => exact ⟨opd_congr (E x (by simp [Op.operands])), rfl⟩
  | assign x => exact ⟨opd_congr (E x (by simp [Op.operands])), rfl⟩
  | pick c x y => simp only [pureD, pureOk, V c (by simp [Op.operands]), V x (by simp [Op.operands]), V y (by simp [Op.operands]), O c (by simp [Op.operands]), O x (by simp [Op.operands]), O y (by simp [Op.operands]), and_self]
  | load t x => simp only [pureD, pureOk, V x (by simp [Op.operands]), O x (by simp [Op.operands]), and_self]
  | fieldAddr s x f => simp only [pureD, pureOk, V x (by simp [Op.operands]), O x (by simp [Op.operands]), and_self]
  | indexAddr t x i => simp only [pureD, pureOk, V x (by simp [Op.operands]), O x (by simp [Op.operands]), V i (by simp [Op.operands]), O i (by simp [Op.operands]), and_self]
  | index t x i => simp only [pureD, pureOk, V x (by simp [Op.operands]), O x (by simp [Op.operands]), V i (by simp [Op.operands]), O i (by simp [Op.operands]), and_self]
  | binOp op t x y ty => simp only [pureD, pureOk, V x (by simp [Op.operands]), O x (by simp [Op.operands]), V y (by simp [Op.operands]), O y (by simp [Op.operands]), and_self]
  | unOp op t x => simp only [pureD, pureOk, V x (by simp [Op.operands]), O x (by simp [Op.operands]), and_self]
  | extract x i => simp only [pureD, pureOk, V x (by simp [Op.operands]), O x (by simp [Op.operands]), and_self]
  | slice t x lo hi mx =>
    obtain ⟨l1, l2⟩ := M lo (fun y e => by simp [Op.operands, e])
    obtain ⟨h1, h2⟩ := M hi (fun y e => by simp [Op.operands, e])
    obtain ⟨m1, m2⟩ := M mx (fun y e => by simp [Op.operands, e])
    simp only [pureD, pureOk, V x (by simp [Op.operands]), O x (by simp [Op.operands]), l1, l2, h1, h2, m1, m2, and_self]
  | nilCheck x => simp only [pureD, pureOk, V x (by simp [Op.operands]), O x (by simp [Op.operands]), and_self]
  | makeFunc fn first caps =>
    have hc : ∀ x, x ∈ caps.toList → ∀ t, x = .tmp t → fr t = fr' t := fun x hx => E x (by simp [Op.operands] at hx ⊢; exact .inr hx)
    cases fn <;> simp only [pureD, pureOk, map_vl_congr hc, allOk1_congr hc, and_self]
  | build t parts =>
    have hm : (parts.toList.map fun p => (p.1, vl fr p.2)) = parts.toList.map fun p => (p.1, vl fr' p.2) := List.map_congr_left fun p hp => by
      rw [V p.2 (by simp only [Op.operands, List.mem_toArray]; exact List.mem_map.2 ⟨p, hp, rfl⟩)]
    have ho : allOk1 fr (parts.toList.map (·.2)) = allOk1 fr' (parts.toList.map (·.2)) := allOk1_congr fun x hx => E x (by simp only [Op.operands, List.mem_toArray]; exact hx)
    simp only [pureD, pureOk, hm, ho, and_self]
  | convert src dst x => simp only [pureD, pureOk, V x (by simp [Op.operands]), O x (by simp [Op.operands]), and_self]
  | call c =>
    obtain ⟨callee, args, ts⟩ := c
    cases callee with
    | builtin b =>
      have hargs : ∀ x, x ∈ args.toList → x ∈ Op.operands (.call ⟨.builtin b, args, ts⟩) := fun x hx => by simp [Op.operands, Call.operands] at hx ⊢; exact hx
      simp only [pureD, pureOk, builtinD, builtinOk]
      obtain ⟨args⟩ := args
      obtain ⟨ts⟩ := ts
      simp only at hargs
      rcases args with _ | ⟨x, _ | ⟨y, _ | ⟨z, args⟩⟩⟩ <;> (try rcases ts with _ | ⟨t, _ | ⟨t2, ts⟩⟩) <;> cases b <;> simp_all
    | _ => exact ⟨rfl, rfl⟩
  | _ => exact ⟨rfl, rfl⟩
end
end Go.Av

/- Regions that draw their order: the lexical order serves every order (2). -/
namespace Go.Av
set_option linter.unusedSectionVars false
variable [Start]

def evQs (P : Program) (ops : List Oper) : List Oper → St → (St → Prop) → Prop
  | [], st, K => K st
  | o :: rest, st, K => quietOp P ops o st fun d => evQs P ops rest ⟨putO st.fr o.dst d, st.h⟩ K

section
variable {P : Program} {ops : List Oper} {h : Hp}

theorem gY_congr {fr fr' : Fr} {op : Op} {d : D} (H : ∀ t, looksTo op t → fr t = fr' t) (hq : gY P ⟨fr, h⟩ op d) : gY P ⟨fr', h⟩ op d := by
  cases op with
  | load t x => cases x <;> exact hq
  | indexAddr t x i =>
    have hi : ∀ t, i = .tmp t → fr t = fr' t := fun t e => H t (by simp [looksTo, Op.operands, e])
    cases x with
    | global g =>
      obtain ⟨cs, h1, h2, h3, h4⟩ := hq
      simp only at h2 h3 h4
      rw [ok1_congr hi] at h2
      rw [vl_congr hi] at h3 h4
      exact ⟨cs, h1, h2, h3, h4⟩
    | _ => exact hq
  | convert src t x =>
    have hi : ∀ t, x = .tmp t → fr t = fr' t := fun t e => H t (by simp [looksTo, Op.operands, e])
    obtain ⟨h1, h2, h3⟩ := hq
    simp only at h1 h2 h3
    rw [ok1_congr hi] at h1
    rw [vl_congr hi] at h2 h3
    exact ⟨h1, h2, h3⟩
  | slice t x lo hi mx =>
    have hx : ∀ t, x = .tmp t → fr t = fr' t := fun t e => H t (by simp [looksTo, Op.operands, e])
    have M : ∀ y : Option Operand, (∀ z, y = some z → ∀ t, z = .tmp t → fr t = fr' t) → y.map (vl fr) = y.map (vl fr') ∧ okO fr y = okO fr' y := by
      intro y hy
      cases y with
      | none => exact ⟨rfl, rfl⟩
      | some z => exact ⟨by simp [vl_congr (hy z rfl)], ok1_congr (hy z rfl)⟩
    obtain ⟨l1, l2⟩ := M lo (fun z e t e2 => H t (by simp [looksTo, Op.operands, e, e2]))
    obtain ⟨h1, h2⟩ := M hi (fun z e t e2 => H t (by simp [looksTo, Op.operands, e, e2]))
    obtain ⟨m1, m2⟩ := M mx (fun z e t e2 => H t (by simp [looksTo, Op.operands, e, e2]))
    have hq' : ok1 fr x ∧ okO fr lo ∧ okO fr hi ∧ okO fr mx ∧ arrOk P t h (vl fr x) (lo.map (vl fr)) (hi.map (vl fr)) (mx.map (vl fr)) ∧ d = arrD P t (vl fr x) (lo.map (vl fr)) (hi.map (vl fr)) := hq
    rw [ok1_congr hx, l2, h2, m2, vl_congr hx, l1, h1, m1] at hq'
    exact hq'
  | build t parts =>
    have E : ∀ x, x ∈ parts.toList.map (·.2) → ∀ u, x = .tmp u → fr u = fr' u := fun x hx u e => H u (by
      show Operand.tmp u ∈ _
      rw [← e]
      simp only [Op.operands, List.mem_toArray]
      exact hx)
    have hm : (parts.toList.map fun p => vl fr p.2) = parts.toList.map fun p => vl fr' p.2 := List.map_congr_left fun p hp => vl_congr (E _ (List.mem_map.2 ⟨p, hp, rfl⟩))
    obtain ⟨h1, h2, h3⟩ := hq
    simp only at h1 h2 h3
    rw [allOk1_congr E] at h1
    rw [hm] at h2 h3
    exact ⟨h1, h2, h3⟩
  | _ => exact hq
theorem quietY_congr {fr fr' : Fr} {o : Oper} {d : D} (H : ∀ t, looks ops o t → fr t = fr' t) (hq : quietY P ops o ⟨fr, h⟩ d) : quietY P ops o ⟨fr', h⟩ d := by
  obtain ⟨dst, op, ty, pos, af, gd⟩ := o
  obtain ⟨hg, hq⟩ := hq
  have hgs : ∀ j p t, gd = some (j, p) → gslot ops j = some t → fr t = fr' t := fun j p t e1 e2 => H t (.inr ⟨j, p, e1, e2⟩)
  simp only [gok_congr (ops := ops) hgs] at hg
  refine ⟨hg, ?_⟩
  by_cases hG : isG P op = true
  · simp only [hG, if_true] at hq ⊢
    exact ⟨hq.1, gY_congr (fun t ht => H t (.inl ht)) hq.2⟩
  simp only [hG] at hq ⊢
  have hpure : ((gcond fr ops gd = true → pureOk P ⟨fr, h⟩ op) ∧ d = wrapG (gcond fr ops gd) gd (pureD P ⟨fr, h⟩ op)) → ((gcond fr' ops gd = true → pureOk P ⟨fr', h⟩ op) ∧ d = wrapG (gcond fr' ops gd) gd (pureD P ⟨fr', h⟩ op)) := by
    obtain ⟨e1, e2⟩ := pure_congr (P := P) (h := h) (op := op) (fr := fr) (fr' := fr') (fun t ht => H t (.inl ht))
    rw [gcond_congr (ops := ops) hgs, e1, e2]
    exact id
  cases op with
  | call c =>
    obtain ⟨callee, args, ts⟩ := c
    cases callee with
    | value f =>
      have hf : ∀ t, f = .tmp t → fr t = fr' t := fun t e => H t (.inl (by simp [looksTo, Op.operands, Call.operands, e]))
      have ha : ∀ x, x ∈ args.toList → ∀ t, x = .tmp t → fr t = fr' t := fun x hx t e => H t (.inl (by
        simp only [looksTo, Op.operands, Call.operands, ← e, Array.mem_append]
        exact .inr (Array.mem_toList_iff.1 hx)))
      simp only at hq ⊢
      rw [gcond_congr (ops := ops) hgs, ok1_congr hf, vl_congr hf, allOk1_congr ha, map_vl_congr ha] at hq
      exact hq
    | _ => exact hpure hq
  | _ => exact hpure hq

/-- Operation number i is carried out. -/
def qAt (P : Program) (ops : List Oper) (h : Hp) (i : Nat) (K : Fr → Prop) (fr : Fr) : Prop :=
  match ops[i]? with
  | none => K fr
  | some o => ∃ d, quietY P ops o ⟨fr, h⟩ d ∧ K (putO fr o.dst d)

theorem qAt_mono {i : Nat} {fr : Fr} {K K' : Fr → Prop} (hk : ∀ fr, K fr → K' fr) (H : qAt P ops h i K fr) : qAt P ops h i K' fr := by
  unfold qAt at *
  split
  · exact hk _ (by simpa [*] using H)
  · rename_i o ho
    simp only [ho] at H
    exact let ⟨d, h1, h2⟩ := H; ⟨d, h1, hk _ h2⟩

def anyA (P : Program) (ops : List Oper) (h : Hp) (K : Fr → Prop) : Nat → Array Bool → Fr → Prop
  | 0, listed, fr => Region.ready .any ops.toArray listed = [] ∧ K fr
  | fuel + 1, listed, fr => (Region.ready .any ops.toArray listed = [] → K fr) ∧ ∀ i ∈ Region.ready .any ops.toArray listed, qAt P ops h i (anyA P ops h K fuel (listed.setIfInBounds i true)) fr

omit [Start] in
theorem putO_comm (fr : Fr) {x y : Option Tmp} (d e : D) (hxy : ∀ t, x = some t → y ≠ some t) : putO (putO fr x d) y e = putO (putO fr y e) x d := by
  cases x with
  | none => rfl
  | some t =>
    cases y with
    | none => rfl
    | some u =>
      have hne : t ≠ u := fun e => hxy t rfl (e ▸ rfl)
      funext k
      simp only [putO, put]
      by_cases h1 : k = t <;> by_cases h2 : k = u <;> simp_all

omit [Start] in
theorem looks_iff {o : Oper} {t : Tmp} : t ∈ o.looksAt ops.toArray ↔ looks ops o t := by
  unfold Oper.looksAt looks looksTo
  simp only [List.mem_append, List.mem_filterMap]
  constructor
  · rintro (⟨x, h1, h2⟩ | h)
    · cases x <;> simp at h2
      subst h2
      exact .inl (Array.mem_toList_iff.1 h1)
    · cases hg : o.guard with
      | none => simp [hg] at h
      | some jp =>
        obtain ⟨j, p⟩ := jp
        simp [hg] at h
        refine .inr ⟨j, p, rfl, ?_⟩
        simp [gslot]
        exact h
  · rintro (h1 | ⟨j, p, h1, h2⟩)
    · exact .inl ⟨.tmp t, Array.mem_toList_iff.2 h1, rfl⟩
    · refine .inr ?_
      simp [h1]
      simpa [gslot] using h2

omit [Start] in
theorem putO_looks {fr : Fr} {o oj : Oper} {d : D} (hap : ∀ t, oj.dst = some t → ¬ looks ops o t) : ∀ t, looks ops o t → fr t = putO fr oj.dst d t := by
  intro t ht
  cases hd : oj.dst with
  | none => rfl
  | some u =>
    simp only [putO, put]
    rw [if_neg]
    rintro rfl
    exact hap t hd ht

theorem qAt_put {j : Nat} {oi oj : Oper} {d : D} (hj : ops[j]? = some oj) (hap : oi.apart ops.toArray oj = true) {K : Fr → Prop} {fr : Fr} (hy : quietY P ops oi ⟨fr, h⟩ d) (H : qAt P ops h j K (putO fr oi.dst d)) :
    qAt P ops h j (fun fr' => quietY P ops oi ⟨fr', h⟩ d ∧ K (putO fr' oi.dst d)) fr := by
  obtain ⟨h1, h2, h3⟩ := Oper.apart_spec hap
  unfold qAt at *
  simp only [hj] at *
  obtain ⟨e, g1, g2⟩ := H
  refine ⟨e, quietY_congr (fun t ht => (putO_looks (fun u hu hl => h1 u hu (looks_iff.2 hl)) t ht).symm) g1, quietY_congr (putO_looks (fun u hu hl => h3 u hu (looks_iff.2 hl))) hy, ?_⟩
  rw [← putO_comm fr d e h2]
  exact g2

theorem anyA_first {K : Fr → Prop} {i : Nat} {oi : Oper} {d : D} (hi : ops[i]? = some oi) :
    ∀ (fuel : Nat) (listed : Array Bool) (fr : Fr),
      (∀ j oj, ops[j]? = some oj → j ≠ i → listed.getD j true = false → (∀ e ∈ oj.after, Region.binds .any e = true → e.on ≠ i) → oi.apart ops.toArray oj = true) →
      i ∈ Region.ready .any ops.toArray listed → quietY P ops oi ⟨fr, h⟩ d →
      anyA P ops h K fuel (listed.setIfInBounds i true) (putO fr oi.dst d) → anyA P ops h K (fuel + 1) listed fr := by
  intro fuel
  have hself : ∀ {fr : Fr} {K' : Fr → Prop}, quietY P ops oi ⟨fr, h⟩ d → K' (putO fr oi.dst d) → qAt P ops h i K' fr := fun hy hk => by
    unfold qAt
    simp only [hi]
    exact ⟨d, hy, hk⟩
  induction fuel with
  | zero =>
    intro listed fr _ hr hy H
    refine ⟨fun h => (by rw [h] at hr; cases hr), fun j hj => ?_⟩
    by_cases hji : j = i
    · subst hji; exact hself hy H
    · have := ready_mono hj hji
      rw [H.1] at this
      cases this
  | succ fuel ih =>
    intro listed fr hfree hr hy H
    refine ⟨fun h => (by rw [h] at hr; cases hr), fun j hj => ?_⟩
    by_cases hji : j = i
    · subst hji; exact hself hy H
    · have h1 := H.2 j (ready_mono hj hji)
      obtain ⟨hjun, oj, hoj, hall⟩ := mem_ready.1 hj
      have hoj' : ops[j]? = some oj := by simpa using hoj
      have hnot : ∀ e ∈ oj.after, Region.binds .any e = true → e.on ≠ i := fun e he hb heq => by
        have h1 := hall e he hb
        have h0 := (mem_ready.1 hr).1
        rw [heq] at h1
        rcases Nat.lt_or_ge i listed.size with h' | h'
        · simp [h'] at h0 h1; rw [h0] at h1; cases h1
        · simp [Array.getElem?_eq_none h'] at h1
      have h2 := qAt_put hoj' (hfree j oj hoj' hji hjun hnot) hy h1
      have hfree' : ∀ k ok, ops[k]? = some ok → k ≠ i → (listed.setIfInBounds j true).getD k true = false →
          (∀ e ∈ ok.after, Region.binds .any e = true → e.on ≠ i) → oi.apart ops.toArray ok = true := fun k ok hk hki hun hno => by
        refine hfree k ok hk hki ?_ hno
        by_cases hjk : j = k
        · subst hjk; exact hjun
        · rw [getD_set_ne true hjk] at hun; exact hun
      refine qAt_mono (fun fr' h3 => ih (listed.setIfInBounds j true) fr' hfree' (ready_mono hr (Ne.symm hji)) h3.1 ?_) h2
      rw [Array.setIfInBounds_comm _ _ hji]
      exact h3.2

theorem anyA_lex {K : Fr → Prop} : ∀ (l : List Oper) (k : Nat) (listed : Array Bool) (fr : Fr), (∀ j, l[j]? = ops[k + j]?) →
    Region.lexFrom .any ops.toArray l.length k listed = true → evQs P ops l ⟨fr, h⟩ (fun st => st.h = h → K st.fr) → anyA P ops h K l.length listed fr
  | [], _, _, _, _, hB, H => ⟨by simpa [Region.lexFrom] using hB, H rfl⟩
  | o :: l, k, listed, fr, hl, hB, H => by
    have h0 : ops[k]? = some o := by simpa using (hl 0).symm
    simp only [List.length_cons, Region.lexFrom, Bool.and_eq_true] at hB
    obtain ⟨⟨hr, hf⟩, hB'⟩ := hB
    obtain ⟨d, hy, hK⟩ := quietOp_iff.1 H
    exact anyA_first h0 l.length listed fr (fun j oj hj hne hun hno => Region.free_spec (by simpa using h0) hf j oj (by simpa using hj) hne hun hno) (by simpa using hr) hy
      (anyA_lex l (k + 1) _ _ (fun j => by have := hl (j + 1); simpa [Nat.add_assoc, Nat.add_comm 1 j] using this) hB' hK)
end

section
variable {P : Program} {ops : List Oper} {n : Nat}

theorem quietY_op {o : Oper} {st : St} {d : D} (hy : quietY P ops o st d) : quietOp P ops o st (fun d' => d' = d) := quietOp_iff.2 ⟨d, hy, rfl⟩

theorem any_sound {K : Fr → Prop} {h : Hp} {Q : Exit → Act → World → Prop} (hd : ops.all (dstOk n) = true) : ∀ (fuel : Nat) (listed : Array Bool) (fr : Fr) (w : World) (σ : Sg) (a : Act), Cnc n w σ a ⟨fr, h⟩ → anyA P ops h K fuel listed fr →
    (∀ fr' σ' a' w', K fr' → Cnc n w' σ' a' ⟨fr', h⟩ → Step w σ h w' σ' h → Q .normal a' w') → wpAny P .any ops.toArray Q fuel listed a w
  | 0, listed, fr, w, σ, a, H, hA, hQ => ⟨hA.1, hQ fr σ a w hA.2 H (.refl w σ h)⟩
  | fuel + 1, listed, fr, w, σ, a, H, hA, hQ => by
    refine ⟨fun hr => hQ fr σ a w (hA.1 hr) H (.refl w σ h), fun i hi => ?_⟩
    have hq := hA.2 i hi
    unfold qAt at hq
    unfold wpOp
    simp only [List.getElem?_toArray]
    cases ho : ops[i]? with
    | none =>
      simp only [ho] at hq ⊢
      exact any_sound hd fuel _ fr w σ a H hq hQ
    | some o =>
      simp only [ho] at hq ⊢
      obtain ⟨d, hy, hk⟩ := hq
      obtain ⟨d', rfl, hs⟩ := quiet_sound (quietY_op hy)
      obtain ⟨h3, h4⟩ := hs w σ a H.inv (fun t _ => H.fr t)
      have hdst : ∀ t, o.dst = some t → t < n := by
        intro t e
        have := List.all_eq_true.1 hd o (List.mem_of_getElem? ho)
        simp only [dstOk, e, decide_eq_true_eq] at this
        exact this
      cases hw : Region.wanted o (yielded ops.toArray a.tmps) with
      | true =>
        simp only [if_true]
        exact .inl ((h3 hw).wp fun v w' ⟨σ', q1, q2, q3⟩ => any_sound hd fuel _ _ w' σ' _ (H.put q3 q1 q2 hdst) hk fun fr' σ'' a' w'' r1 r2 r3 => hQ fr' σ'' a' w'' r1 r2 (q3.trans r3))
      | false =>
        simp only [Bool.false_eq_true, if_false]
        exact any_sound hd fuel _ _ w σ _ (H.put (.refl w σ h) H.inv (h4 hw) hdst) hk hQ

theorem inv_drew {w : World} {σ : Sg} {h : Hp} (hi : Inv w σ h) : Inv w.drew σ h ∧ Step w σ h w.drew σ h := inv_same hi (Adds.refl w).drew

/-- A region that draws its order. -/
theorem draw_sound {id : Nat} {st : St} {w : World} {σ : Sg} {a : Act} {K : St → Prop} {Q : Exit → Act → World → Prop} (hm : P.follows .mixedOrders = true) (hd : ops.all (dstOk n) = true) (hB : Region.lexB .any ops.toArray = true)
    (H : Cnc n w σ a st) (hq : evQs P ops ops st K) (hQ : ∀ st' σ' a' w', K st' → Cnc n w' σ' a' st' → Step w σ st.h w' σ' st'.h → Q .normal a' w') : (Code.region id ops.toArray true).wp P Q a w := by
  refine wp_region_any hm ?_
  obtain ⟨g1, g2⟩ := inv_drew H.inv
  have H' : Cnc n w.drew σ a ⟨st.fr, st.h⟩ := ⟨g1, H.defers, H.size, fun t => (H.fr t).step g2⟩
  simp only [Region.lexB, Bool.and_eq_true] at hB
  have hmono : ∀ (l : List Oper) (fr : Fr), evQs P ops l ⟨fr, st.h⟩ K → evQs P ops l ⟨fr, st.h⟩ (fun st' => st'.h = st.h → K ⟨st'.fr, st.h⟩) := by
    intro l
    induction l with
    | nil => intro fr hk _; exact hk
    | cons o l ih =>
      intro fr hk
      obtain ⟨d, h1, h2⟩ := quietOp_iff.1 hk
      exact quietOp_iff.2 ⟨d, h1, ih _ h2⟩
  have hA := anyA_lex (K := fun fr => K ⟨fr, st.h⟩) ops 0 (Array.replicate ops.length false) st.fr (by simp) (by simpa using hB.2) (hmono ops st.fr hq)
  simp only [List.size_toArray]
  exact any_sound hd ops.length _ st.fr w.drew σ a H' hA fun fr' σ' a' w' k1 k2 k3 => hQ ⟨fr', st.h⟩ σ' a' w' k1 k2 (g2.trans k3)
end
end Go.Av

/- A place that is kept free for a variable: what is allocated there, whatever stands behind it by then. -/
namespace Go.Av
set_option linter.unusedSectionVars false
variable [Start]
section
variable {P : Program} {w : World} {σ : Sg} {h : Hp}

theorem row_at (hi : Inv w σ h) {q m : Nat} (hq : h[q]? = some (.buf m)) {cs : List D} {cells rest : Array Value} {e : TypeId} (hr : RepL w (own σ h) σ h cs cells.toList) :
    Inv (w.alloc (.cells (cells ++ rest) e)) (σ.set q (some w.heap.size)) (h.set q (.row cs)) ∧ Step w σ h (w.alloc (.cells (cells ++ rest) e)) (σ.set q (some w.heap.size)) (h.set q (.row cs)) := by
  have ha := (Adds.refl w).alloc (.cells (cells ++ rest) e)
  have hs0 := (inv_same hi ha).2
  have hnew : (w.alloc (.cells (cells ++ rest) e)).heap[w.heap.size]? = some (.cells (cells ++ rest) e (0, 0)) := heap_alloc_new _ _
  have hsz : w.heap.size < (w.alloc (.cells (cells ++ rest) e)).heap.size := (Array.getElem?_eq_some_iff.1 hnew).1
  generalize w.alloc (.cells (cells ++ rest) e) = w' at ha hs0 hnew hsz
  have hql : q < h.length := (List.getElem?_eq_some_iff.1 hq).1
  have hqs : q < σ.length := by rw [hi.len]; exact hql
  have hne : ∀ k, k ≠ q → (h.set q (.row cs))[k]? = h[k]? := fun k hk => List.getElem?_set_ne (Ne.symm hk)
  have heq : (h.set q (.row cs))[q]? = some (.row cs) := List.getElem?_set_self hql
  have hσne : ∀ k, k ≠ q → (σ.set q (some w.heap.size))[k]? = σ[k]? := fun k hk => List.getElem?_set_ne (Ne.symm hk)
  have hσeq : (σ.set q (some w.heap.size))[q]? = some (some w.heap.size) := List.getElem?_set_self hqs
  have hmono : MonoH σ h (σ.set q (some w.heap.size)) (h.set q (.row cs)) := by
    refine ⟨by simp, fun k hk hb => ?_, fun k j hk hj => ?_⟩
    · have hkr : k ≠ q := fun e => hb m (e ▸ hq)
      exact ⟨hσne k hkr, fun j => by rw [hne k hkr]; exact hb j⟩
    · by_cases e : k = q
      · subst e
        rw [heq] at hj
        cases hj
      · rw [hne k e] at hj
        exact .inl ⟨hj, hσne k e⟩
  have howns : ∀ b o, own (σ.set q (some w.heap.size)) (h.set q (.row cs)) b o → own σ h b o ∨ w.heap.size ≤ b := by
    rintro b o ⟨k, k1, k2⟩
    by_cases e : k = q
    · subst e
      rw [hσeq] at k1
      cases k1
      exact .inr (Nat.le_refl _)
    · rw [hσne k e] at k1
      rw [hne k e] at k2
      exact .inl ⟨k, k1, k2⟩
  have hst : Step w σ h w' (σ.set q (some w.heap.size)) (h.set q (.row cs)) := ⟨hs0.os, hs0.tape, hs0.output, hs0.size, hs0.block, hs0.cell, howns, hs0.shape, hmono⟩
  refine ⟨⟨hi.kept.step hst, by simp [hi.len], fun k b hk => ?_, fun k cs' hk => ?_, fun k k' b h1 h2 h3 h4 => ?_⟩, hst⟩
  · by_cases e : k = q
    · rw [e, hσeq] at hk
      cases hk
      exact hsz
    · rw [hσne k e] at hk
      have := hi.lt k b hk
      omega
  · by_cases e : k = q
    · subst e
      rw [heq] at hk
      cases hk
      refine ⟨.inr ⟨w.heap.size, cells ++ rest, _, (0, 0), hσeq, hnew, ?_, fun i _ => thawed0 i, fun i hi' => ?_⟩⟩
      · have := hr.1; simp only [Array.length_toList] at this; simp; omega
      · have hl := hr.1
        simp only [Array.length_toList] at hl
        refine ⟨cells.toList[i]'(by simp; omega), ?_, ?_⟩
        · rw [Array.getElem?_append_left (by omega)]; simp
        · exact (hr.2 i hi' (by simp; omega)).step hst
    · rw [hne k e] at hk
      exact (hi.live k cs' hk).step hst (List.getElem?_eq_some_iff.1 hk).1 (fun n hn => by rw [hk] at hn; cases hn) (fun b c e fz q1 q2 => by rw [ha.block b (hi.lt k b q1)]; exact q2)
  · by_cases e1 : k = q
    · by_cases e2 : k' = q
      · rw [e1, e2]
      · exfalso
        rw [e1, hσeq] at h1
        rw [hσne k' e2] at h2
        cases h1
        have := hi.lt k' _ h2
        omega
    · by_cases e2 : k' = q
      · exfalso
        rw [e2, hσeq] at h2
        rw [hσne k e1] at h1
        cases h2
        have := hi.lt k _ h1
        omega
      · rw [hσne k e1] at h1
        rw [hσne k' e2] at h2
        rw [hne k e1] at h3
        rw [hne k' e2] at h4
        exact hi.inj k k' b h1 h2 h3 h4

theorem alloc_at (hi : Inv w σ h) {q m : Nat} (hq : h[q]? = some (.buf m)) {t : TypeId} (hz : (ti P t).zero.isEmpty = false) :
    ∃ v w' σ', (Instr.alloc t true (.tuple #[])).run P w = .ok v w' ∧ Inv w' σ' (h.set q (.row (ti P t).zero)) ∧ Step w σ h w' σ' (h.set q (.row (ti P t).zero)) ∧
      Rep w' (own σ' (h.set q (.row (ti P t).zero))) σ' (h.set q (.row (ti P t).zero)) (.ptr q 0) v := by
  have hh : (ti P t).has = true := by
    unfold ti at *
    split
    · rfl
    · rename_i hn; split at hz
      · rename_i i d h1 h2; exact absurd h2 (hn i d h1)
      · simp at hz
  have hql : q < h.length := (List.getElem?_eq_some_iff.1 hq).1
  obtain ⟨i, d, e1, e2, e3⟩ := ti_has hh
  rw [e3] at hz ⊢
  simp only at hz ⊢
  cases hzz : i.zero with
  | none => simp [zeroOf, hzz] at hz
  | some z =>
    obtain ⟨g1, g2⟩ := row_at hi hq (cells := z.cells) (rest := #[]) (e := t) (rep_zero (w := w) (ow := own σ h) (σ := σ) (h := h) hzz)
    simp only [Array.append_empty] at g1 g2
    refine ⟨.pointer (some ⟨w.heap.size, 0, none⟩), _, _, by simp [Instr.alloc, zeroValue, typeInfo, e1, hzz, newVar, newRow], g1, g2, ?_⟩
    exact .ptr q 0 w.heap.size (by simp [hql]) (fun n hn => by rw [List.getElem?_set_self hql] at hn; cases hn) (List.getElem?_set_self (by rw [hi.len]; exact hql))

theorem pad_add (hi : Inv w σ h) : Inv w (σ ++ [none]) (h ++ [.buf 0]) ∧ Step w σ h w (σ ++ [none]) (h ++ [.buf 0]) :=
  inv_add hi (Adds.refl w) none (.buf 0) (fun _ hb => nomatch hb) (fun _ e => nomatch e)
end
end Go.Av

/- Regions that draw their order and store: the lexical order serves every order. -/
namespace Go.Av
set_option linter.unusedSectionVars false
variable [Start]

/-- Some objects turned. -/
def setAll (h : Hp) (R : List (Nat × Ob)) : Hp := R.foldl (fun h p => h.set p.1 p.2) h

/-- f hands back d, turns the objects R and leaves new ones, behind whatever heap that is as long and has the same in R's places. -/
def AddsM (P : Program) (f : FuncId) (args : List D) (h : Hp) (d : D) (R : List (Nat × Ob)) (rows : Hp) : Prop :=
  ∀ h' : Hp, h'.length = h.length → (∀ p, p ∈ R → h'[p.1]? = h[p.1]?) → Meets P f args h' fun d' h'' => d' = d ∧ h'' = setAll h' R ++ rows

/-- The same whatever the heap's length, and no new objects. -/
def AddsF (P : Program) (f : FuncId) (args : List D) (h : Hp) (d : D) (R : List (Nat × Ob)) : Prop :=
  ∀ h' : Hp, (∀ p, p ∈ R → h'[p.1]? = h[p.1]?) → Meets P f args h' fun d' h'' => d' = d ∧ h'' = setAll h' R
theorem AddsF.move {P : Program} {f : FuncId} {args : List D} {h g : Hp} {d : D} {R : List (Nat × Ob)} (H : AddsF P f args h d R) (e : ∀ p, p ∈ R → g[p.1]? = h[p.1]?) : AddsF P f args g d R := fun h' hR => H h' (fun p hp => (hR p hp).trans (e p hp))
theorem AddsF.adds {P : Program} {f : FuncId} {args : List D} {h : Hp} {d : D} {R : List (Nat × Ob)} (H : AddsF P f args h d R) : AddsM P f args h d R [] := fun h' _ hR => by
  rw [List.append_nil]
  exact H h' hR

/-- 0: the objects don't matter; 1: reads; 2: calls; 3: stores; 4: appends; 5: others -/
def opCls : Op → Nat
  | .load _ _ => 1
  | .call ⟨.value _, _, _⟩ => 2
  | .store _ _ _ => 3
  | .call ⟨.builtin .append, _, _⟩ => 4
  | .call ⟨.builtin .copy, _, _⟩ => 4
  | .alloc _ => 5
  | _ => 0

def xOk (P : Program) (st : St) : Op → Prop
  | .buildSlice t n parts => allOk1 st.fr (parts.toList.map (·.2)) ∧ bsOk P t n (parts.toList.map (·.1)) (parts.toList.map fun p => vl st.fr p.2) ∧ ∀ e, e ∈ parts.toList.map (fun p => vl st.fr p.2) → Cl 0 e
  | .convert src dst x => noVec (vl st.fr x) ∧ ok1 st.fr x ∧ convHOk P [] src dst (vl st.fr x)
  | op => pureOk P st op
def convX (P : Program) (dst : TypeId) (x : D) : D :=
  match x with
  | .vec _ _ _ _ _ _ => .junk
  | x => convH P [] dst x
def xD (P : Program) (st : St) : Op → D
  | .convert _ dst x => convX P dst (vl st.fr x)
  | .buildSlice _ _ parts => .slice (parts.toList.map fun p => vl st.fr p.2) .full
  | op => pureD P st op
def isBs : Op → Bool
  | .buildSlice _ _ _ => true
  | .convert _ _ _ => true
  | _ => false

/-- t: the objects that a region's calls turn; u: those that its stores turn, where these may change places with loads. -/
structure TU where
  t : List Nat
  u : List Nat
  p : Option Nat
  g : Bool
/-- A place of the old heap that no call of the region turns. -/
def calm (n : Nat) (T : TU) : D → Prop
  | .vptr _ => True
  | .ptr r _ => r < n ∧ r ∉ T.t ∧ r ∉ T.u
  | _ => False

/-- A row that is appended to is one of T (or appends and loads keep their order). -/
def inT0 (T : TU) : D → Prop
  | .vec r _ _ _ _ _ => r ∈ T.t
  | _ => True
def inT (T : TU) : D → Prop
  | .vec r _ _ _ _ _ => match T.g with | true => True | false => r ∈ T.t
  | _ => True
omit [Start] in
theorem inT_f {T : TU} {d : D} (hg : T.g = false) (h : inT T d) : inT0 T d := by
  cases d with
  | vec r ag sz off len cp => simp only [inT, hg] at h; exact h
  | _ => trivial

/-- Does an append to it make a new row (the old one is gone then)? -/
def gx (T : TU) (dst : Option Tmp) : D → Bool
  | .vec _ _ _ _ _ _ => T.g && dst.isSome
  | _ => false

/-- Two operations may change places. -/
def compat (a b : Nat) : Bool :=
  match a, b with
  | 0, _ | _, 0 => true
  | 1, 1 | 1, 2 | 2, 1 | 2, 3 | 3, 2 | 1, 4 | 4, 1 => true
  | _, _ => false
/-- The same where an alloc may float beside calls and loads. -/
def compatO (fa : Bool) (a b : Nat) : Bool :=
  compat a b || (fa && (match a, b with
    | 5, 1 | 1, 5 | 5, 2 | 2, 5 | 1, 3 | 3, 1 => true
    | _, _ => false))
/-- A load and an append. -/
def pair14 (a b : Nat) : Bool := (a == 1 && b == 4) || (a == 4 && b == 1)
def compatT (g fa : Bool) (a b : Nat) : Bool := compatO fa a b && !(g && pair14 a b)
omit [Start] in
theorem compatT_spec {g fa : Bool} {a b : Nat} (h : compatT g fa a b = true) : compatO fa a b = true ∧ (g = true → pair14 a b = false) := by
  rw [compatT, Bool.and_eq_true, Bool.not_eq_true'] at h
  refine ⟨h.1, fun e => ?_⟩
  have := h.2
  rw [e, Bool.true_and] at this
  exact this
omit [Start] in
theorem g14 {g : Bool} {a b : Nat} (h : g = true → pair14 a b = false) (e : pair14 a b = true) : g = false := by
  cases g with
  | false => rfl
  | true => rw [h rfl] at e; cases e
/-- Does oj wait for operation i, at once or through others? -/
def bound (ops : List Oper) (i : Nat) : Nat → Oper → Bool
  | 0, _ => false
  | f + 1, oj => oj.after.any fun e => Region.binds .any e && (e.on == i || (match ops[e.on]? with | some o => bound ops i f o | none => false))
def mixFrom (fa : Bool) (all : List Oper) : List Oper → Nat → Bool
  | [], _ => true
  | o :: l, i => (all.zipIdx.all fun p => p.2 ≤ i || bound all i all.length p.1 || compatO fa (opCls o.op) (opCls p.1.op)) && mixFrom fa all l (i + 1)
/-- Does an alloc float? Then no call leaves objects. -/
def freeAl (ops : List Oper) : Bool := !mixFrom false ops ops 0
def mixB (ops : List Oper) : Bool := mixFrom (freeAl ops) ops ops 0
/-- Do loads and appends keep their order? -/
def mixSFrom (all : List Oper) : List Oper → Nat → Bool
  | [], _ => true
  | o :: l, i => (all.zipIdx.all fun p => p.2 ≤ i || bound all i all.length p.1 || !(pair14 (opCls o.op) (opCls p.1.op))) && mixSFrom all l (i + 1)
def mixS (ops : List Oper) : Bool := mixSFrom ops ops 0

/-- Where loads may change places with it, a store turns one of U. -/
def UOk (ops : List Oper) (U : List Nat) (r : Nat) : Prop := freeAl ops = true → r ∈ U
omit [Start] in
theorem uNo {ops : List Oper} {U : List Nat} {r : Nat} (h : freeAl ops = false) : UOk ops U r := fun e => absurd e (by rw [h]; exact Bool.false_ne_true)
omit [Start] in
theorem uYes {ops : List Oper} {U : List Nat} {r : Nat} (h : r ∈ U) : UOk ops U r := fun _ => h
/-- A variable's birth: behind all objects, or at the place that was kept for it. -/
def allocY (n : Nat) (T : TU) (fr : Fr) (h : Hp) (dst : Option Tmp) (z : List D) (st' : St) : Prop :=
  match T.p with
  | none => st' = ⟨putO fr dst (.ptr h.length 0), h ++ [.row z]⟩
  | some q => (q < n ∧ h[q]? = some (.buf 0) ∧ q ∉ T.t ∧ q ∈ T.u) ∧ st' = ⟨putO fr dst (.ptr q 0), h.set q (.row z)⟩
omit [Start] in
theorem allocY_none {n : Nat} {T : TU} (hp : T.p = none) (fr : Fr) (h : Hp) (dst : Option Tmp) (z : List D) (st' : St) : allocY n T fr h dst z st' ↔ st' = ⟨putO fr dst (.ptr h.length 0), h ++ [.row z]⟩ := by rw [allocY, hp]
omit [Start] in
theorem allocY_some {n : Nat} {T : TU} {q : Nat} (hp : T.p = some q) (fr : Fr) (h : Hp) (dst : Option Tmp) (z : List D) (st' : St) : allocY n T fr h dst z st' ↔ (q < n ∧ h[q]? = some (.buf 0) ∧ q ∉ T.t ∧ q ∈ T.u) ∧ st' = ⟨putO fr dst (.ptr q 0), h.set q (.row z)⟩ := by rw [allocY, hp]
/-- A call that is carried out: it has no guard, or its guard is met. -/
def gT (fr : Fr) (ops : List Oper) (o : Oper) : Prop := o.guard = none ∨ (o.dst.isSome = true ∧ gok fr ops o.guard ∧ gcond fr ops o.guard = true)
/-- What one operation of such a region does. n: the objects that there were at its beginning; T: those that its calls turn. -/
def mixY (P : Program) (ops : List Oper) (n : Nat) (T : TU) (o : Oper) (st st' : St) : Prop :=
  match o.op with
  | .load t x => o.guard = none ∧ ok1 st.fr x ∧ loadOk P t st.h (vl st.fr x) ∧ calm n T (vl st.fr x) ∧ st' = ⟨putO st.fr o.dst (loadD P t st.h (vl st.fr x)), st.h⟩
  | .store t x y => o.guard = none ∧ ok1 st.fr x ∧ ok1 st.fr y ∧ storeOk P t st.h (vl st.fr x) (vl st.fr y) ∧ (((ptrOf (vl st.fr x)).1 < n ∨ (freeAl ops = true ∧ T.p = none)) ∧ (ptrOf (vl st.fr x)).1 ∉ T.t ∧ UOk ops T.u (ptrOf (vl st.fr x)).1) ∧ st' = ⟨putO st.fr o.dst .junk, storeH st.h (vl st.fr x) (vl st.fr y)⟩
  | .call ⟨.value f, args, _⟩ => gT st.fr ops o ∧ ok1 st.fr f ∧ isFn (vl st.fr f) ∧ allOk1 st.fr args.toList ∧ ∃ d as R rows, AddsM P (fnId (vl st.fr f)) as st.h d R rows ∧ (∀ p, p ∈ R → p.1 ∈ T.t) ∧ (freeAl ops = true → T.p = none → rows = [] ∧ AddsF P (fnId (vl st.fr f)) as st.h d R) ∧ WkL (args.toList.map (vl st.fr) ++ fnCaps (vl st.fr f)) as ∧ st' = ⟨putO st.fr o.dst d, setAll st.h R ++ rows⟩
  | .call ⟨.builtin .append, args, ts⟩ => o.guard = none ∧ ∃ d h', app2 P (gx T o.dst (vl st.fr (args.toList.headD (.global 0)))) st args.toList ts.toList (fun d' h'' => d' = d ∧ h'' = h') ∧ inT T (vl st.fr (args.toList.headD (.global 0))) ∧ st' = ⟨putO st.fr o.dst d, h'⟩
  | .call ⟨.builtin .copy, args, ts⟩ => o.guard = none ∧ ∃ d h', copy2 P st args.toList ts.toList (fun d' h'' => d' = d ∧ h'' = h') ∧ inT T (vl st.fr (args.toList.headD (.global 0))) ∧ st' = ⟨putO st.fr o.dst d, h'⟩
  | .alloc t => o.guard = none ∧ (ti P t).zero.isEmpty = false ∧ allocY n T st.fr st.h o.dst (ti P t).zero st'
  | op => ((isBs op = true → o.guard = none) ∧ isG P op = false) ∧ gok st.fr ops o.guard ∧ (gcond st.fr ops o.guard = true → xOk P st op) ∧ st' = ⟨putO st.fr o.dst (wrapG (gcond st.fr ops o.guard) o.guard (xD P st op)), st.h⟩

section
variable {P : Program} {ops : List Oper} {n : Nat}

variable {T : TU}

omit [Start] in
theorem pure_heap {op : Op} (hc : opCls op = 0) (fr : Fr) (h h' : Hp) : xD P ⟨fr, h⟩ op = xD P ⟨fr, h'⟩ op ∧ xOk P ⟨fr, h⟩ op = xOk P ⟨fr, h'⟩ op := by
  cases op with
  | load t x => simp [opCls] at hc
  | makeFunc fn a b => cases fn <;> exact ⟨rfl, rfl⟩
  | call c => obtain ⟨callee, args, ts⟩ := c; cases callee <;> exact ⟨rfl, rfl⟩
  | _ => exact ⟨rfl, rfl⟩

/-- The case of an operation for which the objects don't matter. -/
theorem mixY_free {o : Oper} {st st' : St} (hc : opCls o.op = 0) : mixY P ops n T o st st' ↔ ((isBs o.op = true → o.guard = none) ∧ isG P o.op = false) ∧ gok st.fr ops o.guard ∧ (gcond st.fr ops o.guard = true → xOk P st o.op) ∧ st' = ⟨putO st.fr o.dst (wrapG (gcond st.fr ops o.guard) o.guard (xD P st o.op)), st.h⟩ := by
  obtain ⟨dst, op, ty, pos, af, gd⟩ := o
  cases op with
  | load t x => simp [opCls] at hc
  | store t x y => simp [opCls] at hc
  | alloc t => simp [opCls] at hc
  | call c =>
    obtain ⟨callee, args, ts⟩ := c
    cases callee with
    | value f => simp [opCls] at hc
    | builtin b =>
      cases b with
      | append => simp [opCls] at hc
      | copy => simp [opCls] at hc
      | _ => exact Iff.rfl
    | _ => exact Iff.rfl
  | _ => exact Iff.rfl

omit [Start] in
theorem ob_app_lt {h rows : Hp} {r : Nat} (hr : r < h.length) : ob (h ++ rows) r = ob h r := by
  simp only [ob, List.getD_eq_getElem?_getD, List.getElem?_append_left hr]

omit [Start] in
theorem setAll_length : ∀ (R : List (Nat × Ob)) (h : Hp), (setAll h R).length = h.length
  | [], _ => rfl
  | p :: R, h => by
    have := setAll_length R (h.set p.1 p.2)
    rw [List.length_set] at this
    exact this
omit [Start] in
theorem setAll_app : ∀ (R : List (Nat × Ob)) (h rows : Hp), (∀ p, p ∈ R → p.1 < h.length) → setAll (h ++ rows) R = setAll h R ++ rows
  | [], _, _, _ => rfl
  | p :: R, h, rows, hR => by
    have := setAll_app R (h.set p.1 p.2) rows (fun q hq => by rw [List.length_set]; exact hR q (List.mem_cons_of_mem _ hq))
    simp only [setAll, List.foldl_cons] at this ⊢
    rw [List.set_append_left _ _ (hR p List.mem_cons_self)]
    exact this
omit [Start] in
theorem setAll_get : ∀ (R : List (Nat × Ob)) (h : Hp) (r : Nat), (∀ p, p ∈ R → p.1 ≠ r) → (setAll h R)[r]? = h[r]?
  | [], _, _, _ => rfl
  | p :: R, h, r, hR => by
    have := setAll_get R (h.set p.1 p.2) r (fun q hq => hR q (List.mem_cons_of_mem _ hq))
    simp only [setAll, List.foldl_cons] at this ⊢
    rw [this, List.getElem?_set_ne (hR p List.mem_cons_self)]
omit [Start] in
theorem setAll_set : ∀ (R : List (Nat × Ob)) (h : Hp) (r : Nat) (x : Ob), (∀ p, p ∈ R → p.1 ≠ r) → setAll (h.set r x) R = (setAll h R).set r x
  | [], _, _, _, _ => rfl
  | p :: R, h, r, x, hR => by
    have := setAll_set R (h.set p.1 p.2) r x (fun q hq => hR q (List.mem_cons_of_mem _ hq))
    simp only [setAll, List.foldl_cons] at this ⊢
    rw [List.set_comm _ _ (Ne.symm (hR p List.mem_cons_self)), this]
omit [Start] in
theorem ob_get {h h' : Hp} {r : Nat} (e : h'[r]? = h[r]?) : ob h' r = ob h r := by
  simp only [ob, List.getD_eq_getElem?_getD, e]

omit [Start] in
theorem load_same {t : TypeId} {h h' : Hp} {x : D} (hc : calm n T x) (hok : loadOk P t h x ∨ loadOk P t h' x) (hx : ∀ r, r < n → r ∉ T.t → r ∉ T.u → (isRow (ob h r) ∨ isRow (ob h' r)) → ob h' r = ob h r) : loadOk P t h' x = loadOk P t h x ∧ loadD P t h' x = loadD P t h x := by
  cases x with
  | ptr r off =>
    have := hx r hc.1 hc.2.1 hc.2.2 (hok.imp (fun q => q.2.2.1) (fun q => q.2.2.1))
    simp only [loadOk, loadD, this, and_self]
  | _ => exact ⟨rfl, rfl⟩

omit [Start] in
/-- What a call leaves of an old place that it doesn't turn. -/
theorem get_call {h rows : Hp} {R : List (Nat × Ob)} {r : Nat} (hn : n ≤ h.length) (hR : ∀ p, p ∈ R → p.1 ∈ T.t) (h1 : r < n) (h2 : r ∉ T.t) : (setAll h R ++ rows)[r]? = h[r]? := by
  rw [List.getElem?_append_left (by rw [setAll_length]; omega), setAll_get R h r (fun p hp e => h2 (e ▸ hR p hp))]

omit [Start] in
theorem get_call' {h rows : Hp} {R : List (Nat × Ob)} {r : Nat} (hn : n ≤ h.length) (hR : ∀ p, p ∈ R → p.1 ∈ T.t) (h1 : r < n ∨ rows = []) (h2 : r ∉ T.t) : (setAll h R ++ rows)[r]? = h[r]? := by
  rcases h1 with h1 | h1
  · exact get_call hn hR h1 h2
  · rw [h1, List.append_nil, setAll_get R h r (fun p hp e => h2 (e ▸ hR p hp))]
omit [Start] in
theorem isRow_lt {h : Hp} {r : Nat} (H : isRow (ob h r)) : r < h.length := by
  by_cases hr : r < h.length
  · exact hr
  · rw [ob, List.getD_eq_getElem?_getD, List.getElem?_eq_none (by omega)] at H
    exact H.elim
omit [Start] in
theorem storeOk_lt {t : TypeId} {h : Hp} {a x : D} (H : storeOk P t h a x) : (ptrOf a).1 < h.length := isRow_lt H.2.2.2.2.2.1
omit [Start] in
theorem store_same {t : TypeId} {h h' : Hp} {a x : D} (e : ob h' (ptrOf a).1 = ob h (ptrOf a).1) : storeOk P t h' a x = storeOk P t h a x ∧ storeH h' a x = h'.set (ptrOf a).1 (.row (splice (rowOf (ob h (ptrOf a).1)) (ptrOf a).2 x.cells)) := by
  refine ⟨by simp only [storeOk, e], by simp only [storeH, e]⟩

omit [Start] in
theorem storeH_length (h : Hp) (a x : D) : (storeH h a x).length = h.length := by simp [storeH]

omit [Start] in
theorem apart_puts {oi oj : Oper} (hap : oi.apart ops.toArray oj = true) (d : D) (fr : Fr) : (∀ t, looks ops oi t → fr t = putO fr oj.dst d t) ∧ (∀ t, looks ops oj t → fr t = putO fr oi.dst d t) ∧ ∀ t, oi.dst = some t → oj.dst ≠ some t := by
  obtain ⟨h1, h2, h3⟩ := Oper.apart_spec hap
  exact ⟨putO_looks fun u hu hl => h3 u hu (looks_iff.2 hl), putO_looks fun u hu hl => h1 u hu (looks_iff.2 hl), h2⟩

omit [Start] in
theorem x_congr {fr fr' : Fr} {h : Hp} {op : Op} (H : ∀ t, looksTo op t → fr t = fr' t) : xD P ⟨fr, h⟩ op = xD P ⟨fr', h⟩ op ∧ xOk P ⟨fr, h⟩ op = xOk P ⟨fr', h⟩ op := by
  cases op with
  | buildSlice t m parts =>
    have E : ∀ p, p ∈ parts.toList → ∀ t, p.2 = .tmp t → fr t = fr' t := fun p hp t e => H t (by
      simp only [looksTo, Op.operands, List.mem_toArray]
      exact List.mem_map.2 ⟨p, hp, e⟩)
    have hm : (parts.toList.map fun p => vl fr p.2) = parts.toList.map fun p => vl fr' p.2 := List.map_congr_left fun p hp => vl_congr (E p hp)
    have ho : allOk1 fr (parts.toList.map (·.2)) = allOk1 fr' (parts.toList.map (·.2)) := allOk1_congr fun x hx t e => by
      obtain ⟨p, hp, rfl⟩ := List.mem_map.1 hx
      exact E p hp t e
    simp only [xD, xOk, hm, ho, and_self]
  | convert src dst x =>
    have hx : ∀ u, x = .tmp u → fr u = fr' u := fun u e => H u (by simp [looksTo, Op.operands, e])
    simp only [xD, xOk, vl_congr hx, ok1_congr hx, and_self]
  | _ => exact pure_congr (P := P) (h := h) H

/-- What a step asks of the frame and of the heap: another frame that is alike to it serves as well. -/
theorem mixY_move {o : Oper} {fr fr' : Fr} {h : Hp} {st : St} (H : ∀ t, looks ops o t → fr t = fr' t) (hy : mixY P ops n T o ⟨fr, h⟩ st) : ∃ d, st.fr = putO fr o.dst d ∧ mixY P ops n T o ⟨fr', h⟩ ⟨putO fr' o.dst d, st.h⟩ := by
  obtain ⟨dst, op, ty, pos, af, gd⟩ := o
  have hgs : ∀ j p t, gd = some (j, p) → gslot ops j = some t → fr t = fr' t := fun j p t e1 e2 => H t (.inr ⟨j, p, e1, e2⟩)
  by_cases hc : opCls op = 0
  · obtain ⟨h0, h1, h2, h3⟩ := (mixY_free (o := ⟨dst, op, ty, pos, af, gd⟩) hc).1 hy
    obtain ⟨e1, e2⟩ := x_congr (P := P) (h := h) (op := op) (fr := fr) (fr' := fr') (fun t ht => H t (.inl ht))
    simp only at h0 h1 h2 h3
    subst h3
    refine ⟨_, rfl, (mixY_free (o := ⟨dst, op, ty, pos, af, gd⟩) hc).2 ⟨h0, ?_, ?_, ?_⟩⟩
    · simp only; rw [← gok_congr (ops := ops) hgs]; exact h1
    · simp only; rw [← gcond_congr (ops := ops) hgs, ← e2]; exact h2
    · simp only; rw [← gcond_congr (ops := ops) hgs, ← e1]
  · cases op with
    | load t x =>
      have hx : ∀ u, x = .tmp u → fr u = fr' u := fun u e => H u (.inl (by simp [looksTo, Op.operands, e]))
      obtain ⟨h1, h2, h3, h4, rfl⟩ := hy
      simp only at h1 h2 h3 h4
      refine ⟨_, rfl, h1, ?_, ?_, ?_, ?_⟩
      · rw [← ok1_congr hx]; exact h2
      · rw [← vl_congr hx]; exact h3
      · rw [← vl_congr hx]; exact h4
      · rw [← vl_congr hx]
    | store t x y =>
      have hx : ∀ u, x = .tmp u → fr u = fr' u := fun u e => H u (.inl (by simp [looksTo, Op.operands, e]))
      have hy' : ∀ u, y = .tmp u → fr u = fr' u := fun u e => H u (.inl (by simp [looksTo, Op.operands, e]))
      obtain ⟨h1, h2, h3, h4, h5, rfl⟩ := hy
      simp only at h1 h2 h3 h4 h5
      refine ⟨_, rfl, h1, ?_, ?_, ?_, ?_, ?_⟩
      · rw [← ok1_congr hx]; exact h2
      · rw [← ok1_congr hy']; exact h3
      · rw [← vl_congr hx, ← vl_congr hy']; exact h4
      · rw [← vl_congr hx]; exact h5
      · rw [← vl_congr hx, ← vl_congr hy']
    | alloc t =>
      obtain ⟨h1, h2, h3⟩ := hy
      simp only at h3
      cases hp : T.p with
      | none =>
        obtain rfl := (allocY_none hp ..).1 h3
        exact ⟨_, rfl, h1, h2, (allocY_none hp ..).2 rfl⟩
      | some q =>
        obtain ⟨h4, rfl⟩ := (allocY_some hp ..).1 h3
        exact ⟨_, rfl, h1, h2, (allocY_some hp ..).2 ⟨h4, rfl⟩⟩
    | call c =>
      obtain ⟨callee, args, ts⟩ := c
      cases callee with
      | value f =>
        have hf : ∀ t, f = .tmp t → fr t = fr' t := fun t e => H t (.inl (by simp [looksTo, Op.operands, Call.operands, e]))
        have ha : ∀ x, x ∈ args.toList → ∀ t, x = .tmp t → fr t = fr' t := fun x hx t e => H t (.inl (by
          simp only [looksTo, Op.operands, Call.operands, ← e, Array.mem_append]
          exact .inr (Array.mem_toList_iff.1 hx)))
        obtain ⟨h1, h2, h3, h4, d, as, R, rows, h5, h5', hfa, h6, rfl⟩ := hy
        simp only at h1 h2 h3 h4 h5 hfa h6
        have h1 : gT fr' ops ⟨dst, .call ⟨.value f, args, ts⟩, ty, pos, af, gd⟩ := h1.imp id fun ⟨e0, e1, e2⟩ => ⟨e0, by simp only; rw [← gok_congr (ops := ops) hgs]; exact e1, by simp only; rw [← gcond_congr (ops := ops) hgs]; exact e2⟩
        rw [ok1_congr hf] at h2
        rw [vl_congr hf] at h3 h5 hfa
        rw [allOk1_congr ha] at h4
        rw [map_vl_congr ha, vl_congr hf] at h6
        exact ⟨d, rfl, h1, h2, h3, h4, d, as, R, rows, h5, h5', hfa, h6, rfl⟩
      | builtin b =>
        cases b with
        | append =>
          obtain ⟨h1, d, h', h2, h3, rfl⟩ := hy
          simp only at h2 h3
          obtain ⟨args⟩ := args
          obtain ⟨ts⟩ := ts
          simp only [app2] at h2
          match args, ts, h2, h3 with
          | [s, x], [t, t'], h2, h3 =>
            have hs : ∀ u, s = .tmp u → fr u = fr' u := fun u e => H u (.inl (by simp [looksTo, Op.operands, Call.operands, e]))
            have hx : ∀ u, x = .tmp u → fr u = fr' u := fun u e => H u (.inl (by simp [looksTo, Op.operands, Call.operands, e]))
            simp only [List.headD_cons] at h2 h3
            rw [ok1_congr hs, ok1_congr hx, vl_congr hs, vl_congr hx] at h2
            rw [vl_congr hs] at h3
            exact ⟨d, rfl, h1, d, h', h2, h3, rfl⟩
        | copy =>
          obtain ⟨h1, d, h', h2, h3, rfl⟩ := hy
          simp only at h2 h3
          obtain ⟨args⟩ := args
          obtain ⟨ts⟩ := ts
          simp only [copy2] at h2
          match args, ts, h2, h3 with
          | [s, x], [t, t'], h2, h3 =>
            have hs : ∀ u, s = .tmp u → fr u = fr' u := fun u e => H u (.inl (by simp [looksTo, Op.operands, Call.operands, e]))
            have hx : ∀ u, x = .tmp u → fr u = fr' u := fun u e => H u (.inl (by simp [looksTo, Op.operands, Call.operands, e]))
            simp only [List.headD_cons] at h2 h3
            rw [ok1_congr hs, ok1_congr hx, vl_congr hs, vl_congr hx] at h2
            rw [vl_congr hs] at h3
            exact ⟨d, rfl, h1, d, h', h2, h3, rfl⟩
        | _ => exact absurd rfl hc
      | _ => exact absurd rfl hc
    | _ => exact absurd rfl hc

omit [Start] in
/-- What an append leaves of rows. -/
theorem app2_get {dst : Option Tmp} {st : St} {args : List Operand} {ts : List TypeId} {d : D} {h' : Hp} (hq : app2 P (gx T dst (vl st.fr (args.headD (.global 0)))) st args ts (fun d' h'' => d' = d ∧ h'' = h')) (hT : inT0 T (vl st.fr (args.headD (.global 0)))) :
    st.h.length ≤ h'.length ∧ ∀ r, r < st.h.length → r ∉ T.t → (isRow (ob st.h r) ∨ isRow (ob h' r)) → ob h' r = ob st.h r := by
  match args, ts, hq with
  | [s, x], [t, t'], ⟨_, _, _, hq2⟩ =>
    clear hq
    simp only [List.headD_cons] at hT hq2
    revert hq2 hT
    generalize vl st.fr s = sd
    generalize vl st.fr x = xd
    intro hq hT
    cases sd with
    | vec r ag sz off len cp =>
      by_cases hg : gx T dst (.vec r ag sz off len cp) = true
      · rw [hg] at hq
        have hq' : growOk P t st.h (.vec r ag sz off len cp) xd ∧ (growD st.h (.vec r ag sz off len cp) xd = d ∧ growH st.h (.vec r ag sz off len cp) xd = h') := by cases xd <;> exact hq
        obtain ⟨_, _, rfl⟩ := hq'
        refine ⟨by simp [growH], fun r' hr' hr _ => ?_⟩
        have hne : r ≠ r' := fun e => hr (e ▸ hT)
        exact ob_get (by simp only [growH]; rw [List.getElem?_append_left (by rw [List.length_set]; exact hr'), List.getElem?_set_ne hne])
      rw [Bool.not_eq_true] at hg
      rw [hg] at hq
      have hq' : appVok P t st.h (.vec r ag sz off len cp) xd ∧ (appVd (.vec r ag sz off len cp) xd = d ∧ appVh st.h (.vec r ag sz off len cp) xd = h') := by cases xd <;> exact hq
      obtain ⟨_, _, rfl⟩ := hq'
      refine ⟨by simp [appVh], fun r' _ hr _ => ?_⟩
      have hne : r ≠ r' := fun e => hr (e ▸ hT)
      exact ob_get (by simp only [appVh]; rw [List.getElem?_set_ne hne])
    | slice es tok =>
      cases xd with
      | slice news t2 =>
        obtain ⟨_, hq⟩ := hq
        cases tok with
        | no => exact hq.elim
        | cap c => exact hq.elim
        | full =>
          simp only [gx, Bool.false_eq_true, if_false] at hq
          obtain ⟨_, rfl⟩ := hq
          exact ⟨by simp, fun r hr _ _ => ob_app_lt hr⟩
        | buf r0 sz =>
          obtain ⟨_, hb, _, rfl⟩ := hq
          refine ⟨by simp, fun r hrl _ hrow => ?_⟩
          by_cases e : r = r0
          · subst e
            exfalso
            rcases hrow with hrow | hrow
            · cases hx : ob st.h r with
              | row cs => rw [hx] at hb; exact hb
              | dead => rw [hx] at hrow; exact hrow
              | buf m => rw [hx] at hrow; exact hrow
            · simp only [ob, List.getD_eq_getElem?_getD, List.getElem?_set_self hrl] at hrow
              exact hrow
          · exact ob_get (List.getElem?_set_ne (Ne.symm e))
      | _ => exact hq.elim
    | _ => exact hq.elim

omit [Start] in
theorem copy2_get {st : St} {args : List Operand} {ts : List TypeId} {d : D} {h' : Hp} (hq : copy2 P st args ts (fun d' h'' => d' = d ∧ h'' = h')) (hT : inT0 T (vl st.fr (args.headD (.global 0)))) :
    st.h.length ≤ h'.length ∧ ∀ r, r < st.h.length → r ∉ T.t → (isRow (ob st.h r) ∨ isRow (ob h' r)) → ob h' r = ob st.h r := by
  match args, ts, hq with
  | [s, x], [t, t'], ⟨_, _, hq1, hq2, hq3⟩ =>
    clear hq
    simp only [List.headD_cons] at hT
    subst hq3
    revert hq1 hT
    generalize vl st.fr s = sd
    generalize vl st.fr x = xd
    intro hq hT
    cases sd with
    | vec r ag sz off len cp =>
      refine ⟨by simp [copyH], fun r' _ hr _ => ?_⟩
      have hne : r ≠ r' := fun e => hr (e ▸ hT)
      exact ob_get (by simp only [copyH]; rw [List.getElem?_set_ne hne])
    | _ => exact hq.elim

omit [Start] in
theorem app2_heap {mu : Bool} {fr : Fr} {h h1 : Hp} {args : List Operand} {ts : List TypeId} {K : D → Hp → Prop} (e : h1 = h) (hq : app2 P mu ⟨fr, h⟩ args ts K) : app2 P mu ⟨fr, h1⟩ args ts K := by subst e; exact hq

def vrow : D → Nat
  | .vec r _ _ _ _ _ => r
  | _ => 0
omit [Start] in
theorem inT0_big (T : TU) (d : D) : inT0 ⟨vrow d :: T.t, T.u, T.p, T.g⟩ d := by
  cases d with
  | vec r ag sz off len cp => exact List.mem_cons_self
  | _ => trivial
omit [Start] in
theorem app2_le {dst : Option Tmp} {st : St} {args : List Operand} {ts : List TypeId} {d : D} {h' : Hp} (hq : app2 P (gx T dst (vl st.fr (args.headD (.global 0)))) st args ts (fun d' h'' => d' = d ∧ h'' = h')) : st.h.length ≤ h'.length := by
  have e : gx T dst (vl st.fr (args.headD (.global 0))) = gx ⟨vrow (vl st.fr (args.headD (.global 0))) :: T.t, T.u, T.p, T.g⟩ dst (vl st.fr (args.headD (.global 0))) := by
    cases vl st.fr (args.headD (.global 0)) <;> rfl
  rw [e] at hq
  exact (app2_get hq (inT0_big T _)).1
omit [Start] in
theorem copy2_le {st : St} {args : List Operand} {ts : List TypeId} {d : D} {h' : Hp} (hq : copy2 P st args ts (fun d' h'' => d' = d ∧ h'' = h')) : st.h.length ≤ h'.length :=
  (copy2_get (T := ⟨vrow (vl st.fr (args.headD (.global 0))) :: [], [], none, false⟩) hq (inT0_big ⟨[], [], none, false⟩ _)).1


/-- Two compatible steps, the second ahead of the first: the heaps. -/
abbrev ti_z (P : Program) (t : TypeId) : List D := (ti P t).zero
theorem mixY_swap {oi oj : Oper} {fr fr1 fr2 fr3 : Fr} {h h1 h2 : Hp} (hn : n ≤ h.length) (hTn : ∀ t, t ∈ T.t → t < n) (hcp : compatT T.g (freeAl ops) (opCls oi.op) (opCls oj.op) = true) (hi : mixY P ops n T oi ⟨fr, h⟩ ⟨fr1, h1⟩) (hj : mixY P ops n T oj ⟨fr2, h1⟩ ⟨fr3, h2⟩) :
    ∃ h', mixY P ops n T oj ⟨fr2, h⟩ ⟨fr3, h'⟩ ∧ mixY P ops n T oi ⟨fr, h'⟩ ⟨fr1, h2⟩ := by
  obtain ⟨di, opi, tyi, posi, afi, gi⟩ := oi
  obtain ⟨dj, opj, tyj, posj, afj, gj⟩ := oj
  simp only at hcp
  obtain ⟨hcp, hg14⟩ := compatT_spec hcp
  by_cases ci : opCls opi = 0
  · obtain ⟨a0, a1, a2, a3⟩ := (mixY_free (o := ⟨di, opi, tyi, posi, afi, gi⟩) ci).1 hi
    obtain ⟨e1, e2⟩ := pure_heap (P := P) ci fr h h2
    have e3 : h1 = h := congrArg St.h a3
    subst e3
    have e4 : fr1 = _ := congrArg St.fr a3
    simp only at a2 e4
    refine ⟨h2, hj, (mixY_free (o := ⟨di, opi, tyi, posi, afi, gi⟩) ci).2 ⟨a0, a1, by simp only; rw [← e2]; exact a2, by simp only; rw [← e1, e4]⟩⟩
  · by_cases cj : opCls opj = 0
    · obtain ⟨a0, a1, a2, a3⟩ := (mixY_free (o := ⟨dj, opj, tyj, posj, afj, gj⟩) cj).1 hj
      obtain ⟨e1, e2⟩ := pure_heap (P := P) cj fr2 h1 h
      have e3 : h2 = h1 := congrArg St.h a3
      subst e3
      have e4 : fr3 = _ := congrArg St.fr a3
      simp only at a2 e4
      refine ⟨h, (mixY_free (o := ⟨dj, opj, tyj, posj, afj, gj⟩) cj).2 ⟨a0, a1, by simp only; rw [← e2]; exact a2, by simp only; rw [← e1, e4]⟩, hi⟩
    · cases opi with
      | load ti xi =>
        obtain ⟨a1, a2, a3, a4, a5⟩ := hi
        have e3 : h1 = h := congrArg St.h a5
        subst e3
        have e4 : fr1 = _ := congrArg St.fr a5
        simp only at a2 a3 a4 e4
        cases opj with
        | load tj xj =>
          obtain ⟨b1, b2, b3, b4, b5⟩ := hj
          have e5 : h2 = h1 := congrArg St.h b5
          subst e5
          exact ⟨h2, ⟨b1, b2, b3, b4, b5⟩, a1, a2, a3, a4, a5⟩
        | call c =>
          obtain ⟨callee, args, ts⟩ := c
          cases callee with
          | value f =>
            obtain ⟨b1, b2, b3, b4, d, as, R, rows, b5, b5', bf, b6, b7⟩ := hj
            have e5 : h2 = setAll h1 R ++ rows := congrArg St.h b7
            subst e5
            obtain ⟨l1, l2⟩ := load_same (P := P) (t := ti) (h := h1) (h' := setAll h1 R ++ rows) a4 (.inl a3) (fun r q1 q2 _ _ => ob_get (get_call hn b5' q1 q2))
            exact ⟨setAll h1 R ++ rows, ⟨b1, b2, b3, b4, d, as, R, rows, b5, b5', bf, b6, b7⟩, a1, a2, by simp only; rw [l1]; exact a3, a4, by simp only; rw [l2, e4]⟩
          | builtin b =>
            cases b with
            | append =>
              obtain ⟨b1, d, h', b2, b3, b4⟩ := hj
              have e5 : h2 = h' := congrArg St.h b4
              subst e5
              simp only at b2 b3
              obtain ⟨l1, l2⟩ := load_same (P := P) (t := ti) (h := h1) (h' := h2) a4 (.inl a3) (fun r q1 q2 _ q3 => (app2_get b2 (inT_f (g14 hg14 rfl) b3)).2 r (Nat.lt_of_lt_of_le q1 hn) q2 q3)
              exact ⟨h2, ⟨b1, d, h2, b2, b3, b4⟩, a1, a2, by simp only; rw [l1]; exact a3, a4, by simp only; rw [l2, e4]⟩
            | copy =>
              obtain ⟨b1, d, h', b2, b3, b4⟩ := hj
              have e5 : h2 = h' := congrArg St.h b4
              subst e5
              simp only at b2 b3
              obtain ⟨l1, l2⟩ := load_same (P := P) (t := ti) (h := h1) (h' := h2) a4 (.inl a3) (fun r q1 q2 _ q3 => (copy2_get b2 (inT_f (g14 hg14 rfl) b3)).2 r (Nat.lt_of_lt_of_le q1 hn) q2 q3)
              exact ⟨h2, ⟨b1, d, h2, b2, b3, b4⟩, a1, a2, by simp only; rw [l1]; exact a3, a4, by simp only; rw [l2, e4]⟩
            | _ => exact absurd rfl cj
          | _ => exact absurd rfl cj
        | store tj xj yj =>
          have hfa : freeAl ops = true := by simpa [compatO, compat, opCls] using hcp
          obtain ⟨b1, b2, b3, b4, b5, b6⟩ := hj
          have e5 : h2 = storeH h1 (vl fr2 xj) (vl fr2 yj) := congrArg St.h b6
          subst e5
          obtain ⟨l1, l2⟩ := load_same (P := P) (t := ti) (h := h1) (h' := storeH h1 (vl fr2 xj) (vl fr2 yj)) a4 (.inl a3) (fun r q1 q2 q3 _ => by
            have hne : (ptrOf (vl fr2 xj)).1 ≠ r := fun e => q3 (e ▸ b5.2.2 hfa)
            simp only [ob, storeH, List.getD_eq_getElem?_getD, List.getElem?_set_ne hne])
          exact ⟨_, ⟨b1, b2, b3, b4, b5, b6⟩, a1, a2, by simp only; rw [l1]; exact a3, a4, by simp only; rw [l2, e4]⟩
        | alloc tj =>
          obtain ⟨b1, b2, b3⟩ := hj
          cases hp : T.p with
          | none =>
            have b3' := (allocY_none hp ..).1 b3
            have e5 : h2 = h1 ++ [.row (ti_z P tj)] := congrArg St.h b3'
            subst e5
            obtain ⟨l1, l2⟩ := load_same (P := P) (t := ti) (h := h1) (h' := h1 ++ [.row (ti_z P tj)]) a4 (.inl a3) (fun r q1 q2 _ _ => ob_app_lt (Nat.lt_of_lt_of_le q1 hn))
            exact ⟨h1 ++ [.row (ti_z P tj)], ⟨b1, b2, b3⟩, a1, a2, by simp only; rw [l1]; exact a3, a4, by simp only; rw [l2, e4]⟩
          | some q =>
            obtain ⟨⟨c1, c2, c3, c4⟩, b3'⟩ := (allocY_some hp ..).1 b3
            have e5 : h2 = h1.set q (.row (ti_z P tj)) := congrArg St.h b3'
            subst e5
            obtain ⟨l1, l2⟩ := load_same (P := P) (t := ti) (h := h1) (h' := h1.set q (.row (ti_z P tj))) a4 (.inl a3) (fun r _ _ q3 _ => by
              have hne : q ≠ r := fun e => q3 (e ▸ c4)
              simp only [ob, List.getD_eq_getElem?_getD, List.getElem?_set_ne hne])
            exact ⟨h1.set q (.row (ti_z P tj)), ⟨b1, b2, b3⟩, a1, a2, by simp only; rw [l1]; exact a3, a4, by simp only; rw [l2, e4]⟩
        | _ => first | exact absurd rfl cj | simp [compatO, compat, opCls] at hcp
      | store ti xi yi =>
        obtain ⟨a1, a2, a3, a4, a5, a6⟩ := hi
        have e3 : h1 = _ := congrArg St.h a6
        have e4 : fr1 = _ := congrArg St.fr a6
        simp only at a2 a3 a4 a5 e3 e4
        cases opj with
        | load tj xj =>
          have hfa : freeAl ops = true := by simpa [compatO, compat, opCls] using hcp
          obtain ⟨b1, b2, b3, b4, b5⟩ := hj
          have e5 : h2 = h1 := congrArg St.h b5
          have e6 : fr3 = _ := congrArg St.fr b5
          simp only at b2 b3 b4 e6
          subst e5
          obtain ⟨l1, l2⟩ := load_same (P := P) (t := tj) (h := h) (h' := h2) b4 (.inr b3) (fun r q1 q2 q3 _ => by
            have hne : (ptrOf (vl fr xi)).1 ≠ r := fun e => q3 (e ▸ a5.2.2 hfa)
            rw [e3]
            simp only [ob, storeH, List.getD_eq_getElem?_getD, List.getElem?_set_ne hne])
          rw [l1] at b3
          rw [l2] at e6
          exact ⟨h, ⟨b1, b2, b3, b4, by simp only; rw [e6]⟩, a1, a2, a3, a4, a5, by simp only; rw [e4, e3]⟩
        | call c =>
          obtain ⟨callee, args, ts⟩ := c
          cases callee with
          | value f =>
            obtain ⟨b1, b2, b3, b4, d, as, R, rows, b5, b5', bf, b6, b7⟩ := hj
            have e5 : h2 = setAll h1 R ++ rows := congrArg St.h b7
            have e6 : fr3 = _ := congrArg St.fr b7
            simp only at b2 b3 b4 b5 b6 e6
            have hRr : ∀ p, p ∈ R → p.1 ≠ (ptrOf (vl fr xi)).1 := fun p hp e => a5.2.1 (e ▸ b5' p hp)
            have hob : ob (setAll h R ++ rows) (ptrOf (vl fr xi)).1 = ob h (ptrOf (vl fr xi)).1 := ob_get (get_call' hn b5' (a5.1.imp id fun e => (bf e.1 e.2).1) a5.2.1)
            obtain ⟨l1, l2⟩ := store_same (P := P) (t := ti) (h := h) (h' := setAll h R ++ rows) (x := vl fr yi) hob
            have h1l : h1.length = h.length := by rw [e3, storeH_length]
            refine ⟨setAll h R ++ rows, ⟨b1, b2, b3, b4, d, as, R, rows, fun h' hl hR => ?_, b5', fun e ep => ⟨(bf e ep).1, (bf e ep).2.move (fun p hp => by rw [e3, storeH, List.getElem?_set_ne (Ne.symm (hRr p hp))])⟩, b6, by simp only; rw [e6]⟩, a1, a2, a3, by simp only; rw [l1]; exact a4, a5, by
              simp only
              rw [l2, e4, e5, e3, storeH, List.set_append_left _ _ (by rw [setAll_length]; exact storeOk_lt a4), setAll_set R h _ _ hRr]⟩
            simp only at hl hR
            refine b5 h' (by rw [hl, h1l]) (fun p hp => ?_)
            rw [hR p hp, e3, storeH, List.getElem?_set_ne (Ne.symm (hRr p hp))]
          | builtin b => cases b <;> first | exact absurd rfl cj | simp [compatO, compat, opCls] at hcp
          | _ => exact absurd rfl cj
        | _ => first | exact absurd rfl cj | simp [compatO, compat, opCls] at hcp
      | call c =>
        obtain ⟨callee, args, ts⟩ := c
        cases callee with
        | value f =>
          obtain ⟨a1, a2, a3, a4, d, as, R, rows, a5, a5', af', a6, a7⟩ := hi
          have e3 : h1 = setAll h R ++ rows := congrArg St.h a7
          have e4 : fr1 = _ := congrArg St.fr a7
          simp only at a2 a3 a4 a5 a6 e4
          subst e3
          cases opj with
          | load tj xj =>
            obtain ⟨b1, b2, b3, b4, b5⟩ := hj
            have e5 : h2 = setAll h R ++ rows := congrArg St.h b5
            have e6 : fr3 = _ := congrArg St.fr b5
            simp only at b2 b3 b4 e6
            subst e5
            obtain ⟨l1, l2⟩ := load_same (P := P) (t := tj) (h := h) (h' := setAll h R ++ rows) b4 (.inr b3) (fun r q1 q2 _ _ => ob_get (get_call hn a5' q1 q2))
            rw [l1] at b3
            rw [l2] at e6
            exact ⟨h, ⟨b1, b2, b3, b4, by simp only; rw [e6]⟩, a1, a2, a3, a4, d, as, R, rows, a5, a5', af', a6, a7⟩
          | store tj xj yj =>
            obtain ⟨b1, b2, b3, b4, b5, b6⟩ := hj
            have e5 : h2 = _ := congrArg St.h b6
            have e6 : fr3 = _ := congrArg St.fr b6
            simp only at b2 b3 b4 b5 e5 e6
            have hRr : ∀ p, p ∈ R → p.1 ≠ (ptrOf (vl fr2 xj)).1 := fun p hp e => b5.2.1 (e ▸ a5' p hp)
            have hob : ob (setAll h R ++ rows) (ptrOf (vl fr2 xj)).1 = ob h (ptrOf (vl fr2 xj)).1 := ob_get (get_call' hn a5' (b5.1.imp id fun e => (af' e.1 e.2).1) b5.2.1)
            obtain ⟨l1, l2⟩ := store_same (P := P) (t := tj) (h := h) (h' := setAll h R ++ rows) (x := vl fr2 yj) hob
            rw [l1] at b4
            rw [l2] at e5
            refine ⟨storeH h (vl fr2 xj) (vl fr2 yj), ⟨b1, b2, b3, b4, b5, by simp only; rw [e6]⟩, a1, a2, a3, a4, d, as, R, rows, fun h' hl hR => ?_, a5', fun e ep => ⟨(af' e ep).1, (af' e ep).2.move (fun p hp => by simp only; rw [storeH, List.getElem?_set_ne (Ne.symm (hRr p hp))])⟩, a6, by
              simp only
              rw [e5, e4, storeH, List.set_append_left _ _ (by rw [setAll_length]; exact storeOk_lt b4), setAll_set R h _ _ hRr]⟩
            simp only at hl hR
            rw [storeH_length] at hl
            refine a5 h' hl (fun p hp => ?_)
            rw [hR p hp, storeH, List.getElem?_set_ne (Ne.symm (hRr p hp))]
          | alloc tj =>
            have hfa : freeAl ops = true := by simpa [compatO, compat, opCls] using hcp
            obtain ⟨b1, b2, b3⟩ := hj
            have hRl : ∀ p, p ∈ R → p.1 < h.length := fun p hp => Nat.lt_of_lt_of_le (hTn p.1 (a5' p hp)) hn
            cases hp : T.p with
            | none =>
              obtain ⟨r0, af2⟩ := af' hfa hp
              subst r0
              simp only at af2
              have b3' := (allocY_none hp ..).1 b3
              have e5 : h2 = setAll h R ++ [] ++ [.row (ti_z P tj)] := congrArg St.h b3'
              have e6 : fr3 = _ := congrArg St.fr b3'
              simp only [List.append_nil] at e5 e6
              have hm : AddsF P (fnId (vl fr f)) as (h ++ [.row (ti_z P tj)]) d R := af2.move (fun p hp => List.getElem?_append_left (hRl p hp))
              refine ⟨h ++ [.row (ti_z P tj)], ⟨b1, b2, (allocY_none hp ..).2 (by simp only; rw [e6, setAll_length])⟩, a1, a2, a3, a4, d, as, R, [], hm.adds, a5', fun _ _ => ⟨rfl, hm⟩, a6, by
                simp only
                rw [e4, e5, List.append_nil, setAll_app R h _ hRl]⟩
            | some q =>
              obtain ⟨⟨c1, c2, c3, c4⟩, b3'⟩ := (allocY_some hp ..).1 b3
              have e5 : h2 = (setAll h R ++ rows).set q (.row (ti_z P tj)) := congrArg St.h b3'
              have e6 : fr3 = _ := congrArg St.fr b3'
              simp only at e6 c2
              have hql : q < h.length := Nat.lt_of_lt_of_le c1 hn
              have hRr : ∀ p, p ∈ R → p.1 ≠ q := fun p hp e => c3 (e ▸ a5' p hp)
              rw [get_call hn a5' c1 c3] at c2
              refine ⟨h.set q (.row (ti_z P tj)), ⟨b1, b2, (allocY_some hp ..).2 ⟨⟨c1, c2, c3, c4⟩, by simp only; rw [e6]⟩⟩, a1, a2, a3, a4, d, as, R, rows, fun h' hl hR => ?_, a5', fun _ ep => absurd ep (by rw [hp]; exact fun e => nomatch e), a6, by
                simp only
                rw [e4, e5, List.set_append_left _ _ (by rw [setAll_length]; exact hql), setAll_set R h _ _ hRr]⟩
              simp only [List.length_set] at hl hR
              refine a5 h' hl (fun p hp => ?_)
              rw [hR p hp, List.getElem?_set_ne (Ne.symm (hRr p hp))]
          | call c =>
            obtain ⟨callee, args, ts⟩ := c
            cases callee with
            | value f => simp [compatO, compat, opCls] at hcp
            | builtin b => cases b <;> first | exact absurd rfl cj | simp [compatO, compat, opCls] at hcp
            | _ => exact absurd rfl cj
          | _ => first | exact absurd rfl cj | simp [compatO, compat, opCls] at hcp
        | builtin b =>
          cases b with
          | append =>
            obtain ⟨a1, d, h', a2, a3, a4⟩ := hi
            have e3 : h1 = h' := congrArg St.h a4
            subst e3
            have e4 : fr1 = _ := congrArg St.fr a4
            simp only at a2 a3 e4
            cases opj with
            | load tj xj =>
              obtain ⟨b1, b2, b3, b4, b5⟩ := hj
              have e5 : h2 = h1 := congrArg St.h b5
              have e6 : fr3 = _ := congrArg St.fr b5
              simp only at b2 b3 b4 e6
              subst e5
              obtain ⟨l1, l2⟩ := load_same (P := P) (t := tj) (h := h) (h' := h2) b4 (.inr b3) (fun r q1 q2 _ q3 => (app2_get a2 (inT_f (g14 hg14 rfl) a3)).2 r (Nat.lt_of_lt_of_le q1 hn) q2 q3)
              rw [l1] at b3
              rw [l2] at e6
              exact ⟨h, ⟨b1, b2, b3, b4, by simp only; rw [e6]⟩, a1, d, h2, a2, a3, a4⟩
            | call c =>
              obtain ⟨callee, args, ts⟩ := c
              cases callee with
              | value f => simp [compatO, compat, opCls] at hcp
              | builtin b => cases b <;> first | exact absurd rfl cj | simp [compatO, compat, opCls] at hcp
              | _ => exact absurd rfl cj
            | _ => first | exact absurd rfl cj | simp [compatO, compat, opCls] at hcp
          | copy =>
            obtain ⟨a1, d, h', a2, a3, a4⟩ := hi
            have e3 : h1 = h' := congrArg St.h a4
            subst e3
            have e4 : fr1 = _ := congrArg St.fr a4
            simp only at a2 a3 e4
            cases opj with
            | load tj xj =>
              obtain ⟨b1, b2, b3, b4, b5⟩ := hj
              have e5 : h2 = h1 := congrArg St.h b5
              have e6 : fr3 = _ := congrArg St.fr b5
              simp only at b2 b3 b4 e6
              subst e5
              obtain ⟨l1, l2⟩ := load_same (P := P) (t := tj) (h := h) (h' := h2) b4 (.inr b3) (fun r q1 q2 _ q3 => (copy2_get a2 (inT_f (g14 hg14 rfl) a3)).2 r (Nat.lt_of_lt_of_le q1 hn) q2 q3)
              rw [l1] at b3
              rw [l2] at e6
              exact ⟨h, ⟨b1, b2, b3, b4, by simp only; rw [e6]⟩, a1, d, h2, a2, a3, a4⟩
            | call c =>
              obtain ⟨callee, args, ts⟩ := c
              cases callee with
              | value f => simp [compatO, compat, opCls] at hcp
              | builtin b => cases b <;> first | exact absurd rfl cj | simp [compatO, compat, opCls] at hcp
              | _ => exact absurd rfl cj
            | _ => first | exact absurd rfl cj | simp [compatO, compat, opCls] at hcp
          | _ => exact absurd rfl ci
        | _ => exact absurd rfl ci
      | alloc t =>
        obtain ⟨a1, a2, a3⟩ := hi
        cases hp : T.p with
        | none =>
          have a3' := (allocY_none hp ..).1 a3
          have e3 : h1 = h ++ [.row (ti_z P t)] := congrArg St.h a3'
          have e4 : fr1 = _ := congrArg St.fr a3'
          simp only at e4
          subst e3
          cases opj with
          | load tj xj =>
            obtain ⟨b1, b2, b3, b4, b5⟩ := hj
            have e5 : h2 = h ++ [.row (ti_z P t)] := congrArg St.h b5
            have e6 : fr3 = _ := congrArg St.fr b5
            simp only at b2 b3 b4 e6
            subst e5
            obtain ⟨l1, l2⟩ := load_same (P := P) (t := tj) (h := h) (h' := h ++ [.row (ti_z P t)]) b4 (.inr b3) (fun r q1 q2 _ _ => ob_app_lt (Nat.lt_of_lt_of_le q1 hn))
            rw [l1] at b3
            rw [l2] at e6
            exact ⟨h, ⟨b1, b2, b3, b4, by simp only; rw [e6]⟩, a1, a2, a3⟩
          | call c =>
            obtain ⟨callee, args, ts⟩ := c
            cases callee with
            | value f =>
              have hfa : freeAl ops = true := by simpa [compatO, compat, opCls] using hcp
              obtain ⟨b1, b2, b3, b4, d, as, R, rows, b5, b5', bf, b6, b7⟩ := hj
              obtain ⟨r0, bf2⟩ := bf hfa hp
              subst r0
              have e5 : h2 = setAll (h ++ [.row (ti_z P t)]) R ++ [] := congrArg St.h b7
              have e6 : fr3 = _ := congrArg St.fr b7
              simp only [List.append_nil] at e5 e6
              simp only at b2 b3 b4 bf2 b6
              have hRl : ∀ p, p ∈ R → p.1 < h.length := fun p hp => Nat.lt_of_lt_of_le (hTn p.1 (b5' p hp)) hn
              have hm : AddsF P (fnId (vl fr2 f)) as h d R := bf2.move (fun p hp => (List.getElem?_append_left (hRl p hp)).symm)
              refine ⟨setAll h R, ⟨b1, b2, b3, b4, d, as, R, [], hm.adds, b5', fun _ _ => ⟨rfl, hm⟩, b6, by simp only [List.append_nil]; rw [e6]⟩, a1, a2, (allocY_none hp ..).2 (by
                simp only
                rw [e4, e5, setAll_app R h _ hRl, setAll_length])⟩
            | builtin b => cases b <;> first | exact absurd rfl cj | simp [compatO, compat, opCls] at hcp
            | _ => exact absurd rfl cj
          | _ => first | exact absurd rfl cj | simp [compatO, compat, opCls] at hcp
        | some q =>
          obtain ⟨⟨c1, c2, c3, c4⟩, a3'⟩ := (allocY_some hp ..).1 a3
          have e3 : h1 = h.set q (.row (ti_z P t)) := congrArg St.h a3'
          have e4 : fr1 = _ := congrArg St.fr a3'
          simp only at e4 c2
          subst e3
          cases opj with
          | load tj xj =>
            obtain ⟨b1, b2, b3, b4, b5⟩ := hj
            have e5 : h2 = h.set q (.row (ti_z P t)) := congrArg St.h b5
            have e6 : fr3 = _ := congrArg St.fr b5
            simp only at b2 b3 b4 e6
            subst e5
            obtain ⟨l1, l2⟩ := load_same (P := P) (t := tj) (h := h) (h' := h.set q (.row (ti_z P t))) b4 (.inr b3) (fun r _ _ q3 _ => by
              have hne : q ≠ r := fun e => q3 (e ▸ c4)
              simp only [ob, List.getD_eq_getElem?_getD, List.getElem?_set_ne hne])
            rw [l1] at b3
            rw [l2] at e6
            exact ⟨h, ⟨b1, b2, b3, b4, by simp only; rw [e6]⟩, a1, a2, a3⟩
          | call c =>
            obtain ⟨callee, args, ts⟩ := c
            cases callee with
            | value f =>
              obtain ⟨b1, b2, b3, b4, d, as, R, rows, b5, b5', bf, b6, b7⟩ := hj
              have e5 : h2 = setAll (h.set q (.row (ti_z P t))) R ++ rows := congrArg St.h b7
              have e6 : fr3 = _ := congrArg St.fr b7
              simp only at b2 b3 b4 b5 b6 e6
              have hql : q < h.length := Nat.lt_of_lt_of_le c1 hn
              have hRr : ∀ p, p ∈ R → p.1 ≠ q := fun p hp e => c3 (e ▸ b5' p hp)
              refine ⟨setAll h R ++ rows, ⟨b1, b2, b3, b4, d, as, R, rows, fun h' hl hR => ?_, b5', fun _ ep => absurd ep (by rw [hp]; exact fun e => nomatch e), b6, by simp only; rw [e6]⟩, a1, a2, (allocY_some hp ..).2 ⟨⟨c1, by simp only; rw [get_call hn b5' c1 c3]; exact c2, c3, c4⟩, by
                simp only
                rw [e4, e5, List.set_append_left _ _ (by rw [setAll_length]; exact hql), setAll_set R h _ _ hRr]⟩⟩
              simp only at hl hR
              refine b5 h' (by rw [hl, List.length_set]) (fun p hp => ?_)
              rw [hR p hp, List.getElem?_set_ne (Ne.symm (hRr p hp))]
            | builtin b => cases b <;> first | exact absurd rfl cj | simp [compatO, compat, opCls] at hcp
            | _ => exact absurd rfl cj
          | _ => first | exact absurd rfl cj | simp [compatO, compat, opCls] at hcp
      | _ => exact absurd rfl ci

theorem mixY_grows {o : Oper} {st st' : St} (hy : mixY P ops n T o st st') : st.h.length ≤ st'.h.length := by
  obtain ⟨dst, op, ty, pos, af, gd⟩ := o
  by_cases hc : opCls op = 0
  · obtain ⟨_, _, _, rfl⟩ := (mixY_free (o := ⟨dst, op, ty, pos, af, gd⟩) hc).1 hy
    exact Nat.le_refl _
  · cases op with
    | load t x => obtain ⟨_, _, _, _, rfl⟩ := hy; exact Nat.le_refl _
    | store t x y => obtain ⟨_, _, _, _, _, rfl⟩ := hy; rw [storeH_length]; exact Nat.le_refl _
    | alloc t =>
      obtain ⟨_, _, h3⟩ := hy
      cases hp : T.p with
      | none => obtain rfl := (allocY_none hp ..).1 h3; simp
      | some q => obtain ⟨_, rfl⟩ := (allocY_some hp ..).1 h3; simp
    | call c =>
      obtain ⟨callee, args, ts⟩ := c
      cases callee with
      | value f => obtain ⟨_, _, _, _, _, _, _, _, _, _, _, _, rfl⟩ := hy; simp [setAll_length]
      | builtin b =>
        cases b with
        | append => obtain ⟨_, d, h', h1, h2, rfl⟩ := hy; exact app2_le h1
        | copy => obtain ⟨_, d, h', h1, h2, rfl⟩ := hy; exact copy2_le h1
        | _ => exact absurd rfl hc
      | _ => exact absurd rfl hc
    | _ => exact absurd rfl hc

/-- A guarded call that is not carried out. -/
def skipY (ops : List Oper) (o : Oper) (st st' : St) : Prop := isCallV o.op = true ∧ o.dst.isSome = true ∧ (∃ g, o.guard = some g) ∧ gok st.fr ops o.guard ∧ gcond st.fr ops o.guard = false ∧ st' = ⟨putO st.fr o.dst (.when false .junk), st.h⟩
def mixZ (P : Program) (ops : List Oper) (n : Nat) (T : TU) (o : Oper) (st st' : St) : Prop := mixY P ops n T o st st' ∨ skipY ops o st st'
theorem mixZ_none {o : Oper} {st st' : St} (hg : o.guard = none) : mixZ P ops n T o st st' = mixY P ops n T o st st' := propext ⟨fun h => h.elim id fun ⟨_, _, ⟨g, e⟩, _⟩ => (by rw [hg] at e; cases e), .inl⟩
theorem mixZ_free {o : Oper} {st st' : St} (hc : opCls o.op = 0) : mixZ P ops n T o st st' = mixY P ops n T o st st' := propext ⟨fun h => h.elim id fun ⟨e, _⟩ => by
  obtain ⟨dst, op, ty, pos, af, gd⟩ := o
  cases op with
  | call c =>
    obtain ⟨callee, args, ts⟩ := c
    cases callee with
    | value f => simp [opCls] at hc
    | _ => simp [isCallV] at e
  | _ => simp [isCallV] at e, .inl⟩
theorem mixZ_move {o : Oper} {fr fr' : Fr} {h : Hp} {st : St} (H : ∀ t, looks ops o t → fr t = fr' t) (hy : mixZ P ops n T o ⟨fr, h⟩ st) : ∃ d, st.fr = putO fr o.dst d ∧ mixZ P ops n T o ⟨fr', h⟩ ⟨putO fr' o.dst d, st.h⟩ := by
  rcases hy with hy | ⟨a1, a2, a3, a4, a5, rfl⟩
  · obtain ⟨d, e1, e2⟩ := mixY_move H hy
    exact ⟨d, e1, .inl e2⟩
  · have hgs : ∀ j p t, o.guard = some (j, p) → gslot ops j = some t → fr t = fr' t := fun j p t e1 e2 => H t (.inr ⟨j, p, e1, e2⟩)
    exact ⟨.when false .junk, rfl, .inr ⟨a1, a2, a3, by rw [← gok_congr (ops := ops) hgs]; exact a4, by rw [← gcond_congr (ops := ops) hgs]; exact a5, rfl⟩⟩
theorem mixZ_swap {oi oj : Oper} {fr fr1 fr2 fr3 : Fr} {h h1 h2 : Hp} (hn : n ≤ h.length) (hTn : ∀ t, t ∈ T.t → t < n) (hcp : compatT T.g (freeAl ops) (opCls oi.op) (opCls oj.op) = true) (hi : mixZ P ops n T oi ⟨fr, h⟩ ⟨fr1, h1⟩) (hj : mixZ P ops n T oj ⟨fr2, h1⟩ ⟨fr3, h2⟩) :
    ∃ h', mixZ P ops n T oj ⟨fr2, h⟩ ⟨fr3, h'⟩ ∧ mixZ P ops n T oi ⟨fr, h'⟩ ⟨fr1, h2⟩ := by
  rcases hi with hi | ⟨a1, a2, a3, a4, a5, a6⟩
  · rcases hj with hj | ⟨b1, b2, b3, b4, b5, b6⟩
    · obtain ⟨h', g1, g2⟩ := mixY_swap hn hTn hcp hi hj
      exact ⟨h', .inl g1, .inl g2⟩
    · have e1 : h2 = h1 := congrArg St.h b6
      have e2 : fr3 = putO fr2 oj.dst (.when false .junk) := congrArg St.fr b6
      subst e1 e2
      exact ⟨h, .inr ⟨b1, b2, b3, b4, b5, rfl⟩, .inl hi⟩
  · have e1 : h1 = h := congrArg St.h a6
    have e2 : fr1 = putO fr oi.dst (.when false .junk) := congrArg St.fr a6
    subst e1 e2
    exact ⟨h2, hj, .inr ⟨a1, a2, a3, a4, a5, rfl⟩⟩
theorem mixZ_grows {o : Oper} {st st' : St} (hy : mixZ P ops n T o st st') : st.h.length ≤ st'.h.length := by
  rcases hy with hy | ⟨_, _, _, _, _, rfl⟩
  · exact mixY_grows hy
  · exact Nat.le_refl _


/-- The swap of two steps. -/
theorem mixZ_comm {oi oj : Oper} {st st1 st2 : St} (hn : n ≤ st.h.length) (hTn : ∀ t, t ∈ T.t → t < n) (hcp : compatT T.g (freeAl ops) (opCls oi.op) (opCls oj.op) = true) (hap : oi.apart ops.toArray oj = true) (hi : mixZ P ops n T oi st st1) (hj : mixZ P ops n T oj st1 st2) :
    ∃ st', mixZ P ops n T oj st st' ∧ mixZ P ops n T oi st' st2 := by
  obtain ⟨fr, h⟩ := st
  obtain ⟨fr1, h1⟩ := st1
  obtain ⟨fr2, h2⟩ := st2
  -- i's frame
  obtain ⟨d, e1, hi'⟩ := mixZ_move (fr' := fr) (fun _ _ => rfl) hi
  simp only at e1
  subst e1
  obtain ⟨p1, p2, p3⟩ := apart_puts hap d fr
  -- j from i's old frame
  obtain ⟨e, e2, hj'⟩ := mixZ_move (fr' := fr) (fun t ht => (p2 t ht).symm) hj
  simp only at e2
  subst e2
  obtain ⟨h', g1, g2⟩ := mixZ_swap (oi := oi) (oj := oj) hn hTn hcp hi hj'
  refine ⟨_, g1, ?_⟩
  obtain ⟨q1, _, _⟩ := apart_puts hap e fr
  obtain ⟨d', e3, g3⟩ := mixZ_move (fr' := putO fr oj.dst e) q1 g2
  simp only at e3
  have e4 : putO (putO fr oj.dst e) oi.dst d = putO (putO fr oj.dst e) oi.dst d' := by rw [← putO_comm fr d e p3, e3, putO_comm fr d' e p3]
  rw [putO_comm fr d e p3, e4]
  exact g3

/-- Operation number i is carried out. -/
def mAt (P : Program) (ops : List Oper) (n : Nat) (T : TU) (i : Nat) (K : St → Prop) (st : St) : Prop :=
  match ops[i]? with
  | none => K st
  | some o => ∃ st', mixZ P ops n T o st st' ∧ K st'

theorem mAt_mono {i : Nat} {st : St} {K K' : St → Prop} (hk : ∀ st', st.h.length ≤ st'.h.length → K st' → K' st') (H : mAt P ops n T i K st) : mAt P ops n T i K' st := by
  unfold mAt at *
  split
  · exact hk _ (Nat.le_refl _) (by simpa [*] using H)
  · rename_i o ho
    simp only [ho] at H
    exact let ⟨d, h1, h2⟩ := H; ⟨d, h1, hk _ (mixZ_grows h1) h2⟩

def anyM (P : Program) (ops : List Oper) (n : Nat) (T : TU) (K : St → Prop) : Nat → Array Bool → St → Prop
  | 0, listed, st => Region.ready .any ops.toArray listed = [] ∧ K st
  | fuel + 1, listed, st => (Region.ready .any ops.toArray listed = [] → K st) ∧ ∀ i ∈ Region.ready .any ops.toArray listed, mAt P ops n T i (anyM P ops n T K fuel (listed.setIfInBounds i true)) st

theorem mAt_put {j : Nat} {oi oj : Oper} {st st1 : St} (hn : n ≤ st.h.length) (hT : ∀ t, t ∈ T.t → t < n) (hj : ops[j]? = some oj) (hap : oi.apart ops.toArray oj = true) (hcp : compatT T.g (freeAl ops) (opCls oi.op) (opCls oj.op) = true) {K : St → Prop} (hy : mixZ P ops n T oi st st1) (H : mAt P ops n T j K st1) :
    mAt P ops n T j (fun st' => ∃ st2, mixZ P ops n T oi st' st2 ∧ K st2) st := by
  unfold mAt at *
  simp only [hj] at *
  obtain ⟨st2, g1, g2⟩ := H
  obtain ⟨st', k1, k2⟩ := mixZ_comm hn hT hcp hap hy g1
  exact ⟨st', k1, st2, k2, g2⟩

/-- What is listed has all listed that it waits for. -/
def Closed (ops : List Oper) (listed : Array Bool) : Prop := ∀ k ok, ops[k]? = some ok → listed.getD k true = true → ∀ e ∈ ok.after, Region.binds .any e = true → listed.getD e.on true = true

omit [Start] in
theorem bound_listed {listed : Array Bool} (hc : Closed ops listed) {i : Nat} : ∀ (f : Nat) (oj : Oper), (∀ e ∈ oj.after, Region.binds .any e = true → listed.getD e.on true = true) → bound ops i f oj = true → listed.getD i true = true
  | 0, _, _, h => by simp [bound] at h
  | f + 1, oj, hall, h => by
    simp only [bound, Array.any_eq_true, Bool.and_eq_true, Bool.or_eq_true, beq_iff_eq] at h
    obtain ⟨m, hm, h1, h2⟩ := h
    have hl := hall _ (Array.getElem_mem hm) h1
    rcases h2 with h2 | h2
    · rw [h2] at hl; exact hl
    · cases ho : ops[oj.after[m].on]? with
      | none => rw [ho] at h2; cases h2
      | some o =>
        rw [ho] at h2
        exact bound_listed hc f o (hc _ o ho hl) h2

omit [Start] in
theorem getD_set_true {listed : Array Bool} {j k : Nat} (h : listed.getD k true = true) : (listed.setIfInBounds j true).getD k true = true := by
  by_cases e : j = k
  · subst e
    by_cases hs : j < listed.size
    · simp [Array.getD_eq_getD_getElem?, hs]
    · simp [Array.getD_eq_getD_getElem?, hs]
  · rw [getD_set_ne true e]; exact h
omit [Start] in
theorem closed_set {listed : Array Bool} (hc : Closed ops listed) {j : Nat} {oj : Oper} (hj : ops[j]? = some oj) (hall : ∀ e ∈ oj.after, Region.binds .any e = true → listed.getD e.on true = true) : Closed ops (listed.setIfInBounds j true) := by
  intro k ok hk hl e he hb
  by_cases ek : j = k
  · subst ek
    have : ok = oj := by rw [hj] at hk; exact (Option.some.inj hk).symm
    subst this
    exact getD_set_true (hall e he hb)
  · rw [getD_set_ne true ek] at hl
    exact getD_set_true (hc k ok hk hl e he hb)
omit [Start] in
theorem getD_of_ready {listed : Array Bool} {k : Nat} (h : listed.getD k false = true) : listed.getD k true = true := by
  rw [Array.getD_eq_getD_getElem?] at h ⊢
  cases hh : listed[k]? with
  | none => rfl
  | some b => rw [hh] at h; exact h

theorem anyM_first {K : St → Prop} (hT : ∀ t, t ∈ T.t → t < n) {i : Nat} {oi : Oper} (hi : ops[i]? = some oi) :
    ∀ (fuel : Nat) (listed : Array Bool) (st st1 : St), n ≤ st.h.length → Closed ops listed →
      (∀ j oj, ops[j]? = some oj → j ≠ i → listed.getD j true = false → (∀ e ∈ oj.after, Region.binds .any e = true → e.on ≠ i) → bound ops i ops.length oj = false → oi.apart ops.toArray oj = true ∧ compatT T.g (freeAl ops) (opCls oi.op) (opCls oj.op) = true) →
      i ∈ Region.ready .any ops.toArray listed → mixZ P ops n T oi st st1 →
      anyM P ops n T K fuel (listed.setIfInBounds i true) st1 → anyM P ops n T K (fuel + 1) listed st := by
  intro fuel
  have hself : ∀ {st st1 : St} {K' : St → Prop}, mixZ P ops n T oi st st1 → K' st1 → mAt P ops n T i K' st := fun hy hk => by
    unfold mAt
    simp only [hi]
    exact ⟨_, hy, hk⟩
  induction fuel with
  | zero =>
    intro listed st st1 hn _ _ hr hy H
    refine ⟨fun h => (by rw [h] at hr; cases hr), fun j hj => ?_⟩
    by_cases hji : j = i
    · subst hji; exact hself hy H
    · have := ready_mono hj hji
      rw [H.1] at this
      cases this
  | succ fuel ih =>
    intro listed st st1 hn hcl hfree hr hy H
    refine ⟨fun h => (by rw [h] at hr; cases hr), fun j hj => ?_⟩
    by_cases hji : j = i
    · subst hji; exact hself hy H
    · have h1 := H.2 j (ready_mono hj hji)
      obtain ⟨hjun, oj, hoj, hall⟩ := mem_ready.1 hj
      have hoj' : ops[j]? = some oj := by simpa using hoj
      have hnot : ∀ e ∈ oj.after, Region.binds .any e = true → e.on ≠ i := fun e he hb heq => by
        have h1 := hall e he hb
        have h0 := (mem_ready.1 hr).1
        rw [heq] at h1
        rcases Nat.lt_or_ge i listed.size with h' | h'
        · simp [h'] at h0 h1; rw [h0] at h1; cases h1
        · simp [Array.getElem?_eq_none h'] at h1
      have hallD : ∀ e ∈ oj.after, Region.binds .any e = true → listed.getD e.on true = true := fun e he hb => by
        have := hall e he hb
        exact getD_of_ready this
      have hiun : listed.getD i true = false := (mem_ready.1 hr).1
      have hnb : bound ops i ops.length oj = false := by
        cases hb : bound ops i ops.length oj with
        | false => rfl
        | true => rw [bound_listed hcl _ _ hallD hb] at hiun; cases hiun
      obtain ⟨f1, f2⟩ := hfree j oj hoj' hji hjun hnot hnb
      have h2 := mAt_put hn hT hoj' f1 f2 hy h1
      have hfree' : ∀ k ok, ops[k]? = some ok → k ≠ i → (listed.setIfInBounds j true).getD k true = false →
          (∀ e ∈ ok.after, Region.binds .any e = true → e.on ≠ i) → bound ops i ops.length ok = false → oi.apart ops.toArray ok = true ∧ compatT T.g (freeAl ops) (opCls oi.op) (opCls ok.op) = true := fun k ok hk hki hun hno hb => by
        refine hfree k ok hk hki ?_ hno hb
        by_cases hjk : j = k
        · subst hjk; exact hjun
        · rw [getD_set_ne true hjk] at hun; exact hun
      refine mAt_mono (fun st' hgr h3 => ?_) h2
      obtain ⟨st2, h3, h4⟩ := h3
      have hcl' : Closed ops (listed.setIfInBounds j true) := closed_set hcl hoj' hallD
      refine ih (listed.setIfInBounds j true) st' st2 (Nat.le_trans hn hgr) hcl' hfree' (ready_mono hr (Ne.symm hji)) h3 ?_
      rw [Array.setIfInBounds_comm _ _ hji]
      exact h4

/-- The operations in the text's order. -/
def evX0 (P : Program) (ops : List Oper) (n : Nat) (T : TU) : List Oper → St → (St → Prop) → Prop
  | [], st, K => K st
  | o :: rest, st, K => ∃ st', mixZ P ops n T o st st' ∧ evX0 P ops n T rest st' K

omit [Start] in
theorem mix_spec : ∀ (l : List Oper) (k : Nat), mixFrom (freeAl ops) ops l k = true → ∀ i o, l[i]? = some o → ∀ j oj, ops[j]? = some oj → k + i < j → bound ops (k + i) ops.length oj = false → compatO (freeAl ops) (opCls o.op) (opCls oj.op) = true
  | [], _, _, i, o, ho, _, _, _, _, _ => by simp at ho
  | x :: l, k, hB, 0, o, ho, j, oj, hj, hlt, hno => by
    simp only [List.getElem?_cons_zero, Option.some.injEq] at ho
    subst ho
    simp only [mixFrom, Bool.and_eq_true] at hB
    have := List.all_eq_true.1 hB.1 (oj, j) (List.mem_zipIdx_iff_getElem?.2 hj)
    simp only [Bool.or_eq_true, decide_eq_true_eq] at this
    rcases this with (h | h) | h
    · omega
    · rw [Nat.add_zero] at hno
      rw [hno] at h; cases h
    · exact h
  | x :: l, k, hB, i + 1, o, ho, j, oj, hj, hlt, hno => by
    simp only [mixFrom, Bool.and_eq_true] at hB
    exact mix_spec l (k + 1) hB.2 i o (by simpa using ho) j oj hj (by omega) (by rw [show k + 1 + i = k + (i + 1) by omega]; exact hno)

omit [Start] in
theorem mixS_spec : ∀ (l : List Oper) (k : Nat), mixSFrom ops l k = true → ∀ i o, l[i]? = some o → ∀ j oj, ops[j]? = some oj → k + i < j → bound ops (k + i) ops.length oj = false → pair14 (opCls o.op) (opCls oj.op) = false
  | [], _, _, i, o, ho, _, _, _, _, _ => by simp at ho
  | x :: l, k, hB, 0, o, ho, j, oj, hj, hlt, hno => by
    simp only [List.getElem?_cons_zero, Option.some.injEq] at ho
    subst ho
    simp only [mixSFrom, Bool.and_eq_true] at hB
    have := List.all_eq_true.1 hB.1 (oj, j) (List.mem_zipIdx_iff_getElem?.2 hj)
    simp only [Bool.or_eq_true, decide_eq_true_eq, Bool.not_eq_true'] at this
    rcases this with (h | h) | h
    · omega
    · rw [Nat.add_zero] at hno
      rw [hno] at h; cases h
    · exact h
  | x :: l, k, hB, i + 1, o, ho, j, oj, hj, hlt, hno => by
    simp only [mixSFrom, Bool.and_eq_true] at hB
    exact mixS_spec l (k + 1) hB.2 i o (by simpa using ho) j oj hj (by omega) (by rw [show k + 1 + i = k + (i + 1) by omega]; exact hno)

theorem anyM_lex {K : St → Prop} (hT : ∀ t, t ∈ T.t → t < n) (hM : mixB ops = true) (hG : T.g = true → mixS ops = true) : ∀ (l : List Oper) (k : Nat) (listed : Array Bool) (st : St), n ≤ st.h.length → (∀ j, l[j]? = ops[k + j]?) → (∀ j, j < k → listed.getD j true = true) → Closed ops listed →
    Region.lexFrom .any ops.toArray l.length k listed = true → evX0 P ops n T l st K → anyM P ops n T K l.length listed st
  | [], _, _, _, _, _, _, _, hB, H => ⟨by simpa [Region.lexFrom] using hB, H⟩
  | o :: l, k, listed, st, hn, hl, hlow, hcl, hB, H => by
    have h0 : ops[k]? = some o := by simpa using (hl 0).symm
    simp only [List.length_cons, Region.lexFrom, Bool.and_eq_true] at hB
    obtain ⟨⟨hr, hf⟩, hB'⟩ := hB
    obtain ⟨st', hy, hK⟩ := H
    have hrdy : k ∈ Region.ready .any ops.toArray listed := by simpa using hr
    have hallD : ∀ e ∈ o.after, Region.binds .any e = true → listed.getD e.on true = true := fun e he hb => by
      obtain ⟨_, o', ho', hall⟩ := mem_ready.1 hrdy
      have : o' = o := by simp [h0] at ho'; exact ho'.symm
      subst this
      have := hall e he hb
      exact getD_of_ready this
    refine anyM_first hT h0 l.length listed st st' hn hcl (fun j oj hj hne hun hno hnb => ⟨Region.free_spec (by simpa using h0) hf j oj (by simpa using hj) hne hun hno, ?_⟩) hrdy hy
      (anyM_lex hT hM hG l (k + 1) _ st' (Nat.le_trans hn (mixZ_grows hy)) (fun j => by have := hl (j + 1); simpa [Nat.add_assoc, Nat.add_comm 1 j] using this) (fun j hj => ?_) (closed_set hcl h0 hallD) hB' hK)
    · have hkj : k < j := by
        rcases Nat.lt_or_ge j k with q | q
        · rw [hlow j q] at hun; cases hun
        · omega
      have c1 := mix_spec ops 0 hM k o h0 j oj hj (by omega) (by rw [Nat.zero_add]; exact hnb)
      rw [compatT, c1, Bool.true_and]
      cases hg : T.g with
      | false => rfl
      | true =>
        have c2 := mixS_spec ops 0 (hG hg) k o h0 j oj hj (by omega) (by rw [Nat.zero_add]; exact hnb)
        rw [c2]
        rfl
    · by_cases e : j = k
      · subst e
        by_cases hs : j < listed.size
        · simp [Array.getD_eq_getD_getElem?, hs]
        · simp [Array.getD_eq_getD_getElem?, hs]
      · rw [getD_set_ne true (Ne.symm e)]
        exact hlow j (by omega)
end
end Go.Av

/- Regions that draw their order and store: they run. -/
namespace Go.Av
set_option linter.unusedSectionVars false
variable [Start]

def hasStore : List Oper → Bool
  | [] => false
  | o :: l => (match o.op with | .store _ _ _ => true | .alloc _ => true | .call ⟨.builtin .append, _, _⟩ => true | .call ⟨.builtin .copy, _, _⟩ => true | _ => false) || hasStore l

/-- A region that draws its order and stores. -/
structure InX (P : Program) (ops : List Oper) (st : St) (K : St → Prop) : Prop where
  mix : mixB ops = true
  run : (∃ T : TU, (T.g = true → mixS ops = true) ∧ (∀ t, t ∈ T.t → t < st.h.length) ∧ evX0 P ops st.h.length T ops st K) ∨ ∃ T : TU, (T.g = true → mixS ops = true) ∧ (∀ t, t ∈ T.t → t < st.h.length) ∧ evX0 P ops (st.h.length + 1) T ops ⟨st.fr, st.h ++ [.buf 0]⟩ K

section
variable {P : Program} {ops : List Oper} {n : Nat} {T : TU}

omit [Start] in
theorem loud_pure {op : Op} {st : St} (hl : isLoud op = true) (hc : opCls op = 0) (hb : isBs op = false) (hk : xOk P st op) : False := by
  cases op with
  | binOp b t x y u =>
    simp only [isLoud] at hl
    obtain ⟨_, _, h3⟩ := hk
    revert hl h3
    cases y with
    | const c =>
      cases c with
      | slice ad n cap =>
        cases ad with
        | none =>
          cases n with
          | zero =>
            cases cap with
            | zero =>
              intro _ h3
              revert h3
              cases hx : vl st.fr x <;> simp [binOk, vl, opd, constD, ofVal, un, isInt, isStr, isBool, isAggD, isNilif]
            | succ c => exact fun h => absurd h (by simp [isNilS])
          | succ n => exact fun h => absurd h (by simp [isNilS])
        | some ad => exact fun h => absurd h (by simp [isNilS])
      | _ => exact fun h => absurd h (by simp [isNilS])
    | _ => exact fun h => absurd h (by simp [isNilS])
  | call c =>
    obtain ⟨callee, args, ts⟩ := c
    cases callee with
    | value f => simp [opCls] at hc
    | builtin b =>
      simp only [xOk, pureOk, builtinOk] at hk
      cases b
      all_goals try (simp [isLoud] at hl; done)
      all_goals (split at hk <;> simp_all)
    | _ => simp [isLoud] at hl
  | alloc t => simp [opCls] at hc
  | box t x => exact hk
  | store t x y => simp [opCls] at hc
  | buildSlice t m p => simp [isBs] at hb
  | makeSlice t a b => exact hk
  | _ => simp [isLoud] at hl

omit [Start] in
theorem copy2_mono {st : St} {args : List Operand} {ts : List TypeId} {K K' : D → Hp → Prop} (hk : ∀ d h, K d h → K' d h) (hq : copy2 P st args ts K) : copy2 P st args ts K' := by
  match args, ts, hq with
  | [s, x], [t, t'], ⟨h1, h2, h3, h4⟩ => exact ⟨h1, h2, h3, hk _ _ h4⟩
omit [Start] in
/-- append by a slice: of one type -/
theorem app3_of {st : St} {args : List Operand} {ts : List TypeId} {mu : Bool} {K : D → Hp → Prop} (hq : app2 P mu st args ts K) : app3 P mu st args ts K := by
  match args, ts, hq with
  | [s, x], [t, t'], hq =>
    show if _ then _ else _
    rw [if_neg]
    · exact hq
    · intro hi
      obtain ⟨rfl, _, _, h⟩ := hq
      have hsl : isSliceK (ti P t').kind := by
        revert h
        generalize vl st.fr s = sd
        generalize vl st.fr x = xd
        intro h
        cases sd with
        | vec r ag sz off len cp =>
          have h' : if mu then growOk P t' st.h (.vec r ag sz off len cp) xd ∧ K (growD st.h (.vec r ag sz off len cp) xd) (growH st.h (.vec r ag sz off len cp) xd) else appVok P t' st.h (.vec r ag sz off len cp) xd ∧ K (appVd (.vec r ag sz off len cp) xd) (appVh st.h (.vec r ag sz off len cp) xd) := by cases xd <;> exact h
          split at h'
          · exact h'.1.2.1
          · exact h'.1.1
        | slice es tok =>
          cases xd with
          | slice news t2 => exact h.1.1
          | _ => exact h.elim
        | _ => exact h.elim
      revert hi hsl
      cases (ti P t').kind <;> simp [intKB, isSliceK]
omit [Start] in
theorem appGo_mono {mu : Bool} {t : TypeId} {h : Hp} {s x : D} {K K' : D → Hp → Prop} (hk : ∀ d h, K d h → K' d h) (h4 : appGo P mu t h s x K) : appGo P mu t h s x K' := by
  cases s with
  | vec r ag sz off len cp =>
    cases mu
    · have h5 : appVok P t h (.vec r ag sz off len cp) x ∧ K (appVd (.vec r ag sz off len cp) x) (appVh h (.vec r ag sz off len cp) x) := by cases x <;> exact h4
      have : appVok P t h (.vec r ag sz off len cp) x ∧ K' (appVd (.vec r ag sz off len cp) x) (appVh h (.vec r ag sz off len cp) x) := ⟨h5.1, hk _ _ h5.2⟩
      cases x <;> exact this
    · have h5 : growOk P t h (.vec r ag sz off len cp) x ∧ K (growD h (.vec r ag sz off len cp) x) (growH h (.vec r ag sz off len cp) x) := by cases x <;> exact h4
      have : growOk P t h (.vec r ag sz off len cp) x ∧ K' (growD h (.vec r ag sz off len cp) x) (growH h (.vec r ag sz off len cp) x) := ⟨h5.1, hk _ _ h5.2⟩
      cases x <;> exact this
  | slice es tok =>
    cases x with
    | slice news t2 =>
      obtain ⟨g1, g2⟩ := h4
      refine ⟨g1, ?_⟩
      cases tok with
      | no => exact g2
      | cap c => exact g2
      | full =>
        cases mu
        · simp only [Bool.false_eq_true, if_false] at g2 ⊢; exact hk _ _ g2
        · simp only [if_true] at g2 ⊢; exact ⟨g2.1, hk _ _ g2.2⟩
      | buf r sz => exact ⟨g2.1, g2.2.1, hk _ _ g2.2.2⟩
    | _ => exact h4
  | _ => exact h4
omit [Start] in
theorem app2_mono {mu : Bool} {st : St} {args : List Operand} {ts : List TypeId} {K K' : D → Hp → Prop} (hk : ∀ d h, K d h → K' d h) (hq : app2 P mu st args ts K) : app2 P mu st args ts K' := by
  match args, ts, hq with
  | [s, x], [t, t'], ⟨h1, h2, h3, h4⟩ => exact ⟨h1, h2, h3, appGo_mono hk h4⟩

omit [Start] in
theorem appGo_fn {mu : Bool} {t : TypeId} {h : Hp} {s x : D} {K : D → Hp → Prop} (H : appGo P mu t h s x K) : ∃ d h', appGo P mu t h s x (fun d' h'' => d' = d ∧ h'' = h') ∧ K d h' := by
  revert H
  cases s with
  | vec r ag sz off len cp =>
    intro H
    cases mu
    · have h5 : appVok P t h (.vec r ag sz off len cp) x ∧ K (appVd (.vec r ag sz off len cp) x) (appVh h (.vec r ag sz off len cp) x) := by cases x <;> exact H
      refine ⟨appVd (.vec r ag sz off len cp) x, appVh h (.vec r ag sz off len cp) x, ?_, h5.2⟩
      have : appVok P t h (.vec r ag sz off len cp) x ∧ (appVd (.vec r ag sz off len cp) x = appVd (.vec r ag sz off len cp) x ∧ appVh h (.vec r ag sz off len cp) x = appVh h (.vec r ag sz off len cp) x) := ⟨h5.1, rfl, rfl⟩
      cases x <;> exact this
    · have h5 : growOk P t h (.vec r ag sz off len cp) x ∧ K (growD h (.vec r ag sz off len cp) x) (growH h (.vec r ag sz off len cp) x) := by cases x <;> exact H
      refine ⟨growD h (.vec r ag sz off len cp) x, growH h (.vec r ag sz off len cp) x, ?_, h5.2⟩
      have : growOk P t h (.vec r ag sz off len cp) x ∧ (growD h (.vec r ag sz off len cp) x = growD h (.vec r ag sz off len cp) x ∧ growH h (.vec r ag sz off len cp) x = growH h (.vec r ag sz off len cp) x) := ⟨h5.1, rfl, rfl⟩
      cases x <;> exact this
  | slice es tok =>
    cases x with
    | slice news t2 =>
      rintro ⟨g1, g2⟩
      cases tok with
      | no => exact g2.elim
      | cap c => exact g2.elim
      | full =>
        cases mu
        · simp only [Bool.false_eq_true, if_false] at g2
          refine ⟨_, _, ⟨g1, ?_⟩, g2⟩
          show (if false = true then _ else _)
          rw [if_neg (by simp)]
          exact ⟨rfl, rfl⟩
        · simp only [if_true] at g2
          refine ⟨_, _, ⟨g1, ?_⟩, g2.2⟩
          show (if true = true then _ else _)
          rw [if_pos rfl]
          exact ⟨g2.1, rfl, rfl⟩
      | buf r sz => exact ⟨_, _, ⟨g1, g2.1, g2.2.1, rfl, rfl⟩, g2.2.2⟩
    | _ => exact fun H => H.elim
  | _ => exact fun H => H.elim

theorem evOp_q {o : Oper} {st : St} {K : St → Prop} (hg : o.guard = none) (hl : isLoud o.op = false) (hq : quietOp P ops o st fun d => K ⟨putO st.fr o.dst d, st.h⟩) : evOp P [] ops o st K := by
  unfold evOp
  rw [hg, hl]
  have : muHas [] o.dst = false := by cases o.dst <;> rfl
  simp only [this, Bool.and_false, Bool.false_eq_true, if_false]
  exact hq
theorem quiet_of {o : Oper} {st : St} {K : D → Prop} (hG : isG P o.op = false) (hc : ∀ f args ts, o.op ≠ .call ⟨.value f, args, ts⟩) (hq : gok st.fr ops o.guard ∧ quietPure P ops o st K) : quietOp P ops o st K := by
  unfold quietOp
  simp only [hG, Bool.false_eq_true, if_false]
  exact hq
omit [Start] in
theorem muG_nil (d : Option Tmp) : muG [] d = false := by cases d <;> rfl
theorem mixY_ev {o : Oper} {st st' : St} (hal : ∀ t, o.op = .alloc t → T.p = none) (hgn : isCallV o.op = true → o.guard = none) (hy : mixY P ops n T o st st') : ∃ mu, evOp P mu ops o st (fun st'' => st'' = st') := by
  obtain ⟨dst, op, ty, pos, af, gd⟩ := o
  by_cases happ : ∃ args ts, op = .call ⟨.builtin .append, args, ts⟩
  · obtain ⟨args, ts, rfl⟩ := happ
    obtain ⟨h1, d, h', h2, h3, rfl⟩ := hy
    simp only at h1 h2
    subst h1
    have key : ∀ b : Bool, app2 P b st args.toList ts.toList (fun d' h'' => d' = d ∧ h'' = h') → app3 P b st args.toList ts.toList (fun d' h'' => (⟨putO st.fr dst d', h''⟩ : St) = ⟨putO st.fr dst d, h'⟩) := fun b hb =>
      app3_of (app2_mono (fun d' h'' ⟨e1, e2⟩ => by rw [e1, e2]) hb)
    by_cases hg : gx T dst (vl st.fr (args.toList.headD (.global 0))) = true
    · rw [hg] at h2
      cases dst with
      | none =>
        exfalso
        revert hg
        cases vl st.fr (args.toList.headD (.global 0)) <;> simp [gx]
      | some t =>
        refine ⟨[t], ?_⟩
        have := key true h2
        show app3 P (muHas [t] (some t)) st args.toList ts.toList _
        have hm : muHas [t] (some t) = true := by simp [muHas]
        rw [hm]
        exact this
    · rw [Bool.not_eq_true] at hg
      rw [hg] at h2
      refine ⟨[], ?_⟩
      have := key false h2
      show app3 P (muHas [] dst) st args.toList ts.toList _
      have hm : muHas [] dst = false := by cases dst <;> rfl
      rw [hm]
      exact this
  refine ⟨[], ?_⟩
  by_cases hc : opCls op = 0
  · obtain ⟨h0, h1, h2, h3⟩ := (mixY_free (o := ⟨dst, op, ty, pos, af, gd⟩) hc).1 hy
    simp only at h0 h1 h2 h3
    by_cases hb : isBs op = true
    · cases op with
      | buildSlice t m parts =>
        have hg := h0.1 rfl
        subst hg
        obtain ⟨k1, k2, k3⟩ := h2 rfl
        refine ⟨k1, k2, ?_⟩
        have hm : muHas [] dst = false := by cases dst <;> rfl
        simp only [hm, Bool.false_eq_true, if_false]
        exact ⟨k3, h3.symm⟩
      | convert src t x =>
        have hg := h0.1 rfl
        subst hg
        obtain ⟨k0, k1, k2⟩ := h2 rfl
        refine evOp_q rfl rfl (quiet_of h0.2 (by intro f args ts e; cases e) ⟨trivial, fun _ => ⟨k1, ?_⟩, ?_⟩)
        · revert k0 k2
          cases vl st.fr x <;> first | exact fun _ k => k | exact fun k _ => k.elim
        · rw [h3]
          show (⟨putO st.fr dst (convH P st.h t (vl st.fr x)), st.h⟩ : St) = ⟨putO st.fr dst (convX P t (vl st.fr x)), st.h⟩
          congr 2
          revert k0
          cases vl st.fr x <;> first | exact fun _ => rfl | exact fun k => k.elim
      | _ => simp [isBs] at hb
    have hb' : isBs op = false := by simpa using hb
    have hx : xOk P st op = pureOk P st op ∧ xD P st op = pureD P st op := by cases op <;> first | exact ⟨rfl, rfl⟩ | simp [isBs] at hb'
    have hq : quietOp P ops ⟨dst, op, ty, pos, af, gd⟩ st (fun d => (⟨putO st.fr dst d, st.h⟩ : St) = st') := by
      unfold quietOp
      simp only [h0.2, Bool.false_eq_true, if_false]
      have hp : gok st.fr ops gd ∧ quietPure P ops ⟨dst, op, ty, pos, af, gd⟩ st (fun d => (⟨putO st.fr dst d, st.h⟩ : St) = st') := ⟨h1, by rw [← hx.1]; exact h2, by rw [← hx.2]; exact h3.symm⟩
      cases op with
      | call c =>
        obtain ⟨callee, args, ts⟩ := c
        cases callee with
        | value f => simp [opCls] at hc
        | _ => exact hp
      | _ => exact hp
    unfold evOp
    split
    · rename_i g1 g2
      simp only at g1 g2
      subst g1
      exact (loud_pure g2 hc hb' (h2 rfl)).elim
    · rw [if_neg (by have : muHas [] dst = false := by cases dst <;> rfl
                     simp [this])]
      exact hq
    · simp only [muG_nil, Bool.false_and, Bool.false_eq_true, if_false]
      exact hq
  · cases op with
    | load t x =>
      obtain ⟨h1, h2, h3, h4, rfl⟩ := hy
      simp only at h1 h2 h3
      subst h1
      cases x with
      | global g => exact absurd h3 (by simp [vl, opd, un, loadOk])
      | _ => exact evOp_q rfl rfl (quiet_of rfl (by intro f args ts e; cases e) ⟨trivial, fun _ => ⟨h2, h3⟩, rfl⟩)
    | store t x y =>
      obtain ⟨h1, h2, h3, h4, h5, rfl⟩ := hy
      simp only at h1 h2 h3 h4
      subst h1
      exact ⟨h2, h3, h4, rfl⟩
    | call c =>
      obtain ⟨callee, args, ts⟩ := c
      cases callee with
      | value f =>
        obtain ⟨_, h2, h3, h4, d, as, R, rows, h5, h5', _, h6, rfl⟩ := hy
        have h1 : gd = none := hgn rfl
        subst h1
        exact ⟨h2, h3, h4, _, as, h5 st.h rfl (fun _ _ => rfl), h6, fun d' h' ⟨e1, e2⟩ => by rw [e1, e2]⟩
      | builtin b =>
        cases b with
        | append => exact absurd ⟨args, ts, rfl⟩ happ
        | copy =>
          obtain ⟨h1, d, h', h2, h3, rfl⟩ := hy
          simp only at h1 h2
          subst h1
          have : copy2 P st args.toList ts.toList (fun d' h'' => (⟨putO st.fr dst d', h''⟩ : St) = ⟨putO st.fr dst d, h'⟩) := copy2_mono (fun d' h'' ⟨e1, e2⟩ => by rw [e1, e2]) h2
          exact this
        | _ => exact absurd rfl hc
      | _ => exact absurd rfl hc
    | alloc t =>
      obtain ⟨h1, h2, h3⟩ := hy
      obtain rfl := (allocY_none (hal t rfl) ..).1 h3
      simp only at h1
      subst h1
      exact ⟨h2, rfl⟩
    | _ => exact absurd rfl hc

theorem mixZ_ev {o : Oper} {st st' : St} (hal : ∀ t, o.op = .alloc t → T.p = none) (hy : mixZ P ops n T o st st') : ∃ mu, evOp P mu ops o st (fun st'' => st'' = st') := by
  rcases hy with hy | ⟨a1, a2, ⟨g, a3⟩, a4, a5, rfl⟩
  · by_cases hg : isCallV o.op = true ∧ o.guard ≠ none
    · obtain ⟨dst, op, ty, pos, af, gd⟩ := o
      obtain ⟨hv, hg⟩ := hg
      cases op with
      | call c =>
        obtain ⟨callee, args, ts⟩ := c
        cases callee with
        | value f =>
          obtain ⟨h1, h2, h3, h4, d, as, R, rows, h5, h5', _, h6, rfl⟩ := hy
          rcases h1 with h1 | ⟨c1, c2, c3⟩
          · exact absurd h1 hg
          · simp only at c1 c2 c3 h2 h3 h4 h5 h6 hg
            cases gd with
            | none => exact absurd rfl hg
            | some g =>
              cases dst with
              | none => simp at c1
              | some t =>
                refine ⟨[2000000 + t], ?_⟩
                have hm : muG [2000000 + t] (some t) = true := by simp [muG]
                simp only [evOp, hm, isCallV, Bool.and_self, if_true]
                exact ⟨c2, fun _ => ⟨h2, h3, h4, _, as, h5 st.h rfl (fun _ _ => rfl), h6, fun d' h' ⟨e1, e2⟩ => by rw [e1, e2]⟩, fun e => by rw [c3] at e; cases e⟩
        | _ => simp [isCallV] at hv
      | _ => simp [isCallV] at hv
    · refine mixY_ev hal (fun e => ?_) hy
      cases hgd : o.guard with
      | none => rfl
      | some g => exact absurd ⟨e, by rw [hgd]; simp⟩ hg
  · obtain ⟨dst, op, ty, pos, af, gd⟩ := o
    simp only at a1 a2 a3 a4 a5
    subst a3
    cases op with
    | call c =>
      obtain ⟨callee, args, ts⟩ := c
      cases callee with
      | value f =>
        cases dst with
        | none => simp at a2
        | some t =>
          refine ⟨[2000000 + t], ?_⟩
          have hm : muG [2000000 + t] (some t) = true := by simp [muG]
          simp only [evOp, hm, isCallV, Bool.and_self, if_true]
          refine ⟨a4, fun e => (by rw [a5] at e; cases e), fun _ => ⟨a4, .junk, [], fun e' => absurd e' (by rw [a5]; exact Bool.false_ne_true), ?_⟩⟩
          simp only [a5, wrapG]
      | _ => simp [isCallV] at a1
    | _ => simp [isCallV] at a1

/-- One operation runs. -/
theorem mixZ_sound {m : Nat} {o : Oper} {st st1 : St} {w : World} {σ : Sg} {a : Act} (H : Cnc m w σ a st) (hd : dstOk m o = true) (hy : mixZ P ops n T o st st1) {Q : Exit → Act → World → Prop} {next : Act → World → Prop}
    (hn : ∀ st' σ' a' w', st' = st1 → Cnc m w' σ' a' st' → Step w σ st.h w' σ' st'.h → next a' w') :
    if Region.wanted o (yielded ops.toArray a.tmps) then o.wp P a w next Q else next (a.put o.dst undef) w := by
  by_cases hc : ∃ t q, o.op = .alloc t ∧ T.p = some q
  · obtain ⟨t, q, ho, hp⟩ := hc
    have hdst : ∀ t, o.dst = some t → t < m := by
      intro t e
      simp only [dstOk, e, decide_eq_true_eq] at hd
      exact hd
    obtain ⟨dst, op, ty, pos, af, gd⟩ := o
    simp only at ho
    subst ho
    rcases hy with ⟨h1, h2, h3⟩ | ⟨e, _⟩
    case inr => simp [isCallV] at e
    obtain ⟨⟨_, h4, _, _⟩, rfl⟩ := (allocY_some hp ..).1 h3
    simp only at h1 h4
    subst h1
    have hw : Region.wanted ⟨dst, .alloc t, ty, pos, af, none⟩ (yielded ops.toArray a.tmps) = true := by simp [Region.wanted]
    rw [hw]
    simp only [if_true]
    obtain ⟨v, w', σ', g1, g2, g3, g4⟩ := alloc_at (P := P) H.inv h4 h2
    have hr : OpRes P ⟨dst, .alloc t, ty, pos, af, none⟩ a w fun v w' => ∃ σ', Inv w' σ' (st.h.set q (.row (ti P t).zero)) ∧ Rep w' (own σ' (st.h.set q (.row (ti P t).zero))) σ' (st.h.set q (.row (ti P t).zero)) (.ptr q 0) v ∧ Step w σ st.h w' σ' (st.h.set q (.row (ti P t).zero)) :=
      .inl ⟨v, w', by simp [execOp, g1], σ', g2, g4, g3⟩
    exact hr.wp fun v w' ⟨σ', q1, q2, q3⟩ => hn _ σ' _ w' rfl (H.put q3 q1 q2 hdst) q3
  · have hal : ∀ t, o.op = .alloc t → T.p = none := fun t e => by
      cases hp : T.p with
      | none => rfl
      | some q => exact absurd ⟨t, q, e, hp⟩ hc
    obtain ⟨mu, hev⟩ := mixZ_ev (P := P) (ops := ops) (n := n) (T := T) (o := o) (st := st) (st' := st1) hal hy
    exact op_sound (K := fun st' => st' = st1) H hd hev hn

theorem anyM_sound {K : St → Prop} {m : Nat} {Q : Exit → Act → World → Prop} (hd : ops.all (dstOk m) = true) : ∀ (fuel : Nat) (listed : Array Bool) (st : St) (w : World) (σ : Sg) (a : Act), Cnc m w σ a st → anyM P ops n T K fuel listed st →
    (∀ st' σ' a' w', K st' → Cnc m w' σ' a' st' → Step w σ st.h w' σ' st'.h → Q .normal a' w') → wpAny P .any ops.toArray Q fuel listed a w
  | 0, listed, st, w, σ, a, H, hA, hQ => ⟨hA.1, hQ st σ a w hA.2 H (.refl w σ st.h)⟩
  | fuel + 1, listed, st, w, σ, a, H, hA, hQ => by
    refine ⟨fun hr => hQ st σ a w (hA.1 hr) H (.refl w σ st.h), fun i hi => ?_⟩
    have hq := hA.2 i hi
    unfold mAt at hq
    unfold wpOp
    simp only [List.getElem?_toArray]
    cases ho : ops[i]? with
    | none =>
      simp only [ho] at hq ⊢
      exact anyM_sound hd fuel _ st w σ a H hq hQ
    | some o =>
      simp only [ho] at hq ⊢
      obtain ⟨st1, hy, hk⟩ := hq
      have hdo : dstOk m o = true := List.all_eq_true.1 hd o (List.mem_of_getElem? ho)
      have hop := mixZ_sound (Q := Q) (next := fun a' w' => wpAny P .any ops.toArray Q fuel (listed.setIfInBounds i true) a' w') H hdo hy (fun st' σ' a' w' e k1 k2 => by
        subst e
        exact anyM_sound hd fuel _ st' w' σ' a' k1 hk fun st'' σ'' a'' w'' r1 r2 r3 => hQ st'' σ'' a'' w'' r1 r2 (k2.trans r3))
      cases hw : Region.wanted o (yielded ops.toArray a.tmps) with
      | true =>
        rw [hw] at hop
        simp only [if_true] at hop ⊢
        exact .inl hop
      | false =>
        rw [hw] at hop
        simp only [Bool.false_eq_true, if_false] at hop ⊢
        exact hop

/-- Such a region. -/
theorem mix_sound {m : Nat} {id : Nat} {st : St} {w : World} {σ : Sg} {a : Act} {K : St → Prop} {Q : Exit → Act → World → Prop} (hm : P.follows .mixedOrders = true) (hd : ops.all (dstOk m) = true) (hB : Region.lexB .any ops.toArray = true)
    (H : Cnc m w σ a st) (hq : InX P ops st K) (hQ : ∀ st' σ' a' w', K st' → Cnc m w' σ' a' st' → Step w σ st.h w' σ' st'.h → Q .normal a' w') : (Code.region id ops.toArray true).wp P Q a w := by
  obtain ⟨hM, hq⟩ := hq
  refine wp_region_any hm ?_
  obtain ⟨g1, g2⟩ := inv_drew H.inv
  have H' : Cnc m w.drew σ a ⟨st.fr, st.h⟩ := ⟨g1, H.defers, H.size, fun t => (H.fr t).step g2⟩
  simp only [Region.lexB, Bool.and_eq_true] at hB
  rcases hq with ⟨T, hG, hT, hq⟩ | ⟨T, hG, hT, hq⟩
  case inr =>
    obtain ⟨p1, p2⟩ := pad_add g1
    have H2 : Cnc m w.drew (σ ++ [none]) a ⟨st.fr, st.h ++ [.buf 0]⟩ := ⟨p1, H.defers, H.size, fun t => ((H.fr t).step g2).step p2⟩
    have hA := anyM_lex (K := K) (n := st.h.length + 1) (fun t ht => Nat.lt_succ_of_lt (hT t ht)) hM hG ops 0 (Array.replicate ops.length false) ⟨st.fr, st.h ++ [.buf 0]⟩ (by simp) (by simp) (fun j hj => absurd hj (Nat.not_lt_zero j)) (fun k ok hk hl e he hb => by
      obtain ⟨hk', _⟩ := List.getElem?_eq_some_iff.1 hk
      simp [Array.getD_eq_getD_getElem?, hk'] at hl) (by simpa using hB.2) hq
    simp only [List.size_toArray]
    exact anyM_sound hd ops.length _ _ w.drew _ a H2 hA fun st' σ' a' w' k1 k2 k3 => hQ st' σ' a' w' k1 k2 ((g2.trans p2).trans k3)
  have hA := anyM_lex (K := K) (n := st.h.length) hT hM hG ops 0 (Array.replicate ops.length false) st (Nat.le_refl _) (by simp) (fun j hj => absurd hj (Nat.not_lt_zero j)) (fun k ok hk hl e he hb => by
    obtain ⟨hk', _⟩ := List.getElem?_eq_some_iff.1 hk
    simp [Array.getD_eq_getD_getElem?, hk'] at hl) (by simpa using hB.2) hq
  simp only [List.size_toArray]
  exact anyM_sound hd ops.length _ st w.drew σ a H' hA fun st' σ' a' w' k1 k2 k3 => hQ st' σ' a' w' k1 k2 (g2.trans k3)
end
end Go.Av

/- Objects that a call leaves and nobody names any more are left out of its contract. -/
namespace Go.Av
set_option linter.unusedSectionVars false
variable [Start]

/-- d without k objects from n on: what it names lies behind them. -/
inductive Ren (n k : Nat) : D → D → Prop where
  | int (q : IntKind) (i : Int) : Ren n k (.int q i) (.int q i)
  | bool (b : Bool) : Ren n k (.bool b) (.bool b)
  | str (s : List UInt8) : Ren n k (.str s) (.str s)
  | snil (t : Tok) (ht : ∀ r sz, t ≠ .buf r sz) : Ren n k (.slice [] t) (.slice [] t)
  | slice (es : List D) : Ren n k (.slice es .no) (.slice es .no)
  | full (es : List D) : Ren n k (.slice es .full) (.slice es .full)
  | vec (r : Nat) (ag : Bool) (sz off len cp : Nat) (h : n ≤ r) : Ren n k (.vec (r + k) ag sz off len cp) (.vec r ag sz off len cp)
  | old (r : Nat) (ag : Bool) (sz off len cp : Nat) (h : r < n) : Ren n k (.vec r ag sz off len cp) (.vec r ag sz off len cp)
  | ptr (r off : Nat) (h : n ≤ r) : Ren n k (.ptr (r + k) off) (.ptr r off)
  | oldp (r off : Nat) (h : r < n) : Ren n k (.ptr r off) (.ptr r off)
  | agg (cs cs' : List D) (hl : cs'.length = cs.length) (h : ∀ j (h1 : j < cs.length) (h2 : j < cs'.length), Ren n k (cs[j]) (cs'[j])) : Ren n k (.agg cs) (.agg cs')
  | tup (cs cs' : List D) (hl : cs'.length = cs.length) (h : ∀ j (h1 : j < cs.length) (h2 : j < cs'.length), Ren n k (cs[j]) (cs'[j])) : Ren n k (.tup cs) (.tup cs')
  | nilptr : Ren n k .nilptr .nilptr
  | nilfn : Ren n k .nilfn .nilfn
  | nilif : Ren n k .nilif .nilif
  | junk : Ren n k .junk .junk

inductive RenOb (n k : Nat) : Ob → Ob → Prop where
  | row (cs cs' : List D) (hl : cs'.length = cs.length) (h : ∀ j (h1 : j < cs.length) (h2 : j < cs'.length), Ren n k (cs[j]) (cs'[j])) : RenOb n k (.row cs) (.row cs')
  | dead : RenOb n k .dead .dead

omit [Start] in
theorem Ren.rep {n k : Nat} {d d' : D} (K : Ren n k d d') : ∀ {w : World} {ow ow' : Nat → Nat → Prop} {σ σ' : Sg} {h1 h2 : Hp} {v : Value}, Rep w ow σ h1 d v → (∀ b o, ow' b o → ow b o) → h1.length = h2.length + k →
    (∀ r : Nat, r < n → σ'[r]? = σ[r]? ∧ h2[r]? = h1[r]?) → (∀ r : Nat, n ≤ r → σ'[r]? = σ[r + k]? ∧ (notBuf h1 (r + k) → notBuf h2 r)) → n ≤ h2.length → Rep w ow' σ' h2 d' v := by
  induction K with
  | int q i => intro _ _ _ _ _ _ _ v H _ _ _ _ _; cases H; exact .int _ _
  | bool b => intro _ _ _ _ _ _ _ v H _ _ _ _ _; cases H; exact .bool _
  | str s => intro _ _ _ _ _ _ _ v H _ _ _ _ _; cases H with | str _ hl => exact .str _ hl
  | snil t ht =>
    intro _ _ _ _ _ _ _ v H _ _ _ _ _
    cases H with
    | slice _ _ a cap vs hlen hcap hfull htok hc hr =>
      exact .slice [] t a cap vs hlen hcap hfull (fun r sz e => absurd e (ht r sz)) (fun k hk => by simp [flat] at hk) (fun k hk => by simp [flat] at hk)
  | slice es =>
    intro w ow ow' _ _ _ _ v H how _ _ _ _
    have hm : MonoW w ow w ow' := ⟨fun _ _ _ _ hc => hc, fun b o _ ho ho' => ho (how b o ho'), fun _ c _ _ hb => ⟨c, hb, rfl⟩⟩
    cases H with
    | slice _ _ a cap vs hlen hcap hfull htok hc hr =>
      exact .slice es .no a cap vs hlen hcap hfull (fun r sz e => nomatch e) (fun k hk => by obtain ⟨b, o, e1, e2, e3⟩ := hc k hk; exact ⟨b, o, e1, fun q => e2 (how _ _ q), e3⟩) (fun k hk => (hr k hk).mono hm MonoH.nil)
  | full es =>
    intro w ow ow' _ _ _ _ v H how _ _ _ _
    have hm : MonoW w ow w ow' := ⟨fun _ _ _ _ hc => hc, fun b o _ ho ho' => ho (how b o ho'), fun _ c _ _ hb => ⟨c, hb, rfl⟩⟩
    cases H with
    | slice _ _ a cap vs hlen hcap hfull htok hc hr =>
      exact .slice es .full a cap vs hlen hcap hfull (fun r sz e => nomatch e) (fun k hk => by obtain ⟨b, o, e1, e2, e3⟩ := hc k hk; exact ⟨b, o, e1, fun q => e2 (how _ _ q), e3⟩) (fun k hk => (hr k hk).mono hm MonoH.nil)
  | vec r ag sz off len cp h =>
    intro _ _ _ _ _ _ _ v H _ hl _ hs _
    cases H with
    | vec _ _ _ _ _ _ a cap hlen hcap hr hb hv => exact .vec r ag sz off len cp a cap hlen hcap (by omega) ((hs r h).2 hb) (by rw [(hs r h).1]; exact hv)
  | old r ag sz off len cp h =>
    intro _ _ _ _ _ _ _ v H _ hl hlo _ hn
    cases H with
    | vec _ _ _ _ _ _ a cap hlen hcap hr hb hv => exact .vec r ag sz off len cp a cap hlen hcap (by omega) (fun m => by rw [(hlo r h).2]; exact hb m) (by rw [(hlo r h).1]; exact hv)
  | ptr r off h =>
    intro _ _ _ _ _ _ _ v H _ hl _ hs _
    cases H with
    | ptr _ _ b hr hb hs' => exact .ptr r off b (by omega) ((hs r h).2 hb) (by rw [(hs r h).1]; exact hs')
  | oldp r off h =>
    intro _ _ _ _ _ _ _ v H _ hl hlo _ hn
    cases H with
    | ptr _ _ b hr hb hs' => exact .ptr r off b (by omega) (fun m => by rw [(hlo r h).2]; exact hb m) (by rw [(hlo r h).1]; exact hs')
  | agg cs cs' hl h ih =>
    intro _ _ _ _ _ _ _ v H how hle hlo hs hn
    cases H with
    | agg _ vs hvl hr => exact .agg cs' vs (by omega) (fun j k1 k2 => ih j (by omega) k1 (hr j (by omega) k2) how hle hlo hs hn)
  | tup cs cs' hl h ih =>
    intro _ _ _ _ _ _ _ v H how hle hlo hs hn
    cases H with
    | tup _ vs hvl hr => exact .tup cs' vs (by omega) (fun j k1 k2 => ih j (by omega) k1 (hr j (by omega) k2) how hle hlo hs hn)
  | nilptr => intro _ _ _ _ _ _ _ v H _ _ _ _ _; cases H; exact .nilptr
  | nilfn => intro _ _ _ _ _ _ _ v H _ _ _ _ _; cases H; exact .nilfn
  | nilif => intro _ _ _ _ _ _ _ v H _ _ _ _ _; cases H; exact .nilif
  | junk => exact fun _ _ _ _ _ _ => .junk _

omit [Start] in
theorem ObCl.mono' {n m : Nat} {x : Ob} (H : ObCl n x) (hm : n ≤ m) : ObCl m x := by
  cases x with
  | row cs => exact fun d hd => (H d hd).mono hm
  | dead => trivial
  | buf n => trivial
/-- The objects 'junk' are left out. hb: the heap ahead of them. -/
theorem compact_core {w' : World} {σ' : Sg} {hb junk rows1 rows2 : Hp} (hi' : Inv w' σ' (hb ++ (junk ++ rows1))) (hcl' : ∀ (r : Nat) x, hb[r]? = some x → ObCl hb.length x)
    (hl : rows2.length = rows1.length) (hrr0 : ∀ j (h1 : j < rows1.length) (h2 : j < rows2.length), RenOb hb.length junk.length (rows1[j]) (rows2[j])) :
    ∃ σ2, Inv w' σ2 (hb ++ rows2) ∧ (∀ {d d' : D} {v : Value}, Ren hb.length junk.length d d' → Rep w' (own σ' (hb ++ (junk ++ rows1))) σ' (hb ++ (junk ++ rows1)) d v → Rep w' (own σ2 (hb ++ rows2)) σ2 (hb ++ rows2) d' v) ∧
      (∀ {d : D} {v : Value}, Cl hb.length d → Rep w' (own σ' (hb ++ (junk ++ rows1))) σ' (hb ++ (junk ++ rows1)) d v → Rep w' (own σ2 (hb ++ rows2)) σ2 (hb ++ rows2) d v) ∧
      ∀ (w : World) (σ : Sg) (h : Hp), h.length ≤ hb.length → Step w σ h w' σ' (hb ++ (junk ++ rows1)) → Step w σ h w' σ2 (hb ++ rows2) := by
  have hlen := hi'.len
  simp only [List.length_append] at hlen
  have slo : ∀ r : Nat, r < hb.length → (σ'.take hb.length ++ σ'.drop (hb.length + junk.length))[r]? = σ'[r]? := fun r hr => by
    rw [List.getElem?_append_left (by simp; omega), getElem?_take_lt hr]
  have shi : ∀ r : Nat, hb.length ≤ r → (σ'.take hb.length ++ σ'.drop (hb.length + junk.length))[r]? = σ'[r + junk.length]? := fun r hr => by
    rw [List.getElem?_append_right (by simp; omega), List.getElem?_drop]
    congr 1
    simp
    omega
  have hlo : ∀ r : Nat, r < hb.length → (hb ++ rows2)[r]? = (hb ++ (junk ++ rows1))[r]? := fun r hr => by
    rw [List.getElem?_append_left (by omega), List.getElem?_append_left (by omega)]
  have hhi : ∀ r : Nat, hb.length ≤ r → (hb ++ rows2)[r]? = rows2[r - hb.length]? ∧ (hb ++ (junk ++ rows1))[r + junk.length]? = rows1[r - hb.length]? := fun r hr => by
    refine ⟨by rw [List.getElem?_append_right (by omega)], ?_⟩
    rw [List.getElem?_append_right (by omega), List.getElem?_append_right (by omega)]
    congr 1
    omega
  -- what stands at a new place
  have hren : ∀ (r : Nat) y, hb.length ≤ r → (hb ++ rows2)[r]? = some y → ∃ x, (hb ++ (junk ++ rows1))[r + junk.length]? = some x ∧ RenOb hb.length junk.length x y := fun r y hr hy => by
    rw [(hhi r hr).1] at hy
    obtain ⟨hj, rfl⟩ := List.getElem?_eq_some_iff.1 hy
    refine ⟨rows1[r - hb.length]'(by omega), by rw [(hhi r hr).2]; exact List.getElem?_eq_getElem (by omega), ?_⟩
    have := hrr0 (r - hb.length) (by omega) hj
    exact this
  have hown : ∀ b o, own (σ'.take hb.length ++ σ'.drop (hb.length + junk.length)) (hb ++ rows2) b o → own σ' (hb ++ (junk ++ rows1)) b o := by
    rintro b o ⟨r, h1, h2⟩
    by_cases hrr : r < hb.length
    · rw [slo r hrr] at h1
      rw [hlo r hrr] at h2
      exact ⟨r, h1, h2⟩
    · rw [shi r (by omega)] at h1
      refine ⟨_, h1, ?_⟩
      rcases h2 with ⟨cs, e⟩ | ⟨m, e, _⟩
      · obtain ⟨x, e1, e2⟩ := hren r _ (by omega) e
        cases e2 with
        | row cs0 _ _ _ => exact .inl ⟨cs0, e1⟩
      · obtain ⟨x, e1, e2⟩ := hren r _ (by omega) e
        cases e2
  have hnb : ∀ r : Nat, hb.length ≤ r → (notBuf (hb ++ (junk ++ rows1)) (r + junk.length) → notBuf (hb ++ rows2) r) := fun r hr _ m e => by
    obtain ⟨x, e1, e2⟩ := hren r _ hr e
    cases e2
  have hL : (hb ++ (junk ++ rows1)).length = (hb ++ rows2).length + junk.length := by simp; omega
  have hn : hb.length ≤ (hb ++ rows2).length := by simp
  have conv : ∀ {d d' : D} {v : Value}, Ren hb.length junk.length d d' → Rep w' (own σ' (hb ++ (junk ++ rows1))) σ' (hb ++ (junk ++ rows1)) d v → Rep w' (own (σ'.take hb.length ++ σ'.drop (hb.length + junk.length)) (hb ++ rows2)) (σ'.take hb.length ++ σ'.drop (hb.length + junk.length)) (hb ++ rows2) d' v := fun K R =>
    K.rep R hown hL (fun r hr => ⟨slo r hr, hlo r hr⟩) (fun r hr => ⟨shi r hr, hnb r hr⟩) hn
  have convOld : ∀ {d : D} {v : Value}, Cl hb.length d → Rep w' (own σ' (hb ++ (junk ++ rows1))) σ' (hb ++ (junk ++ rows1)) d v → Rep w' (own (σ'.take hb.length ++ σ'.drop (hb.length + junk.length)) (hb ++ rows2)) (σ'.take hb.length ++ σ'.drop (hb.length + junk.length)) (hb ++ rows2) d v := fun K R =>
    R.move hown K hn (fun r hr => ⟨slo r hr, fun hb' m => by rw [hlo r hr]; exact hb' m, fun m hm => by rw [← hlo r hr]; exact hm⟩)
  refine ⟨σ'.take hb.length ++ σ'.drop (hb.length + junk.length), ⟨hi'.kept.sub hown, by simp; omega, fun r b hr' => ?_, fun r cs hr' => ?_, fun r r' b e1 e2 e3 e4 => ?_⟩, conv, convOld, fun w σ h hbl hst => ?_⟩
  · by_cases hrr : r < hb.length
    · rw [slo r hrr] at hr'; exact hi'.lt r b hr'
    · rw [shi r (by omega)] at hr'; exact hi'.lt _ b hr'
  · by_cases hrr : r < hb.length
    · have hx : hb[r]? = some (.row cs) := by rw [List.getElem?_append_left (by omega)] at hr'; exact hr'
      have hcs : ∀ d, d ∈ cs → Cl hb.length d := hcl' r _ hx
      rw [hlo r hrr] at hr'
      refine ⟨(hi'.live r cs hr').cells.imp (fun q => ⟨q.1, fun b => by rw [slo r hrr]; exact q.2 b⟩) ?_⟩
      rintro ⟨b, c, e, fz, q1, q2, q3, q4, q5⟩
      refine ⟨b, c, e, fz, by rw [slo r hrr]; exact q1, q2, q3, q4, fun i hi2 => ?_⟩
      obtain ⟨u, u1, u2⟩ := q5 i hi2
      exact ⟨u, u1, convOld (hcs _ (List.getElem_mem hi2)) u2⟩
    · obtain ⟨x, e1, e2⟩ := hren r _ (by omega) hr'
      cases e2 with
      | row cs0 _ hl0 hcs =>
        refine ⟨(hi'.live _ cs0 e1).cells.imp (fun q => ⟨by obtain ⟨q, _⟩ := q; subst q; exact List.eq_nil_of_length_eq_zero (by simpa using hl0), fun b => by rw [shi r (by omega)]; exact q.2 b⟩) ?_⟩
        rintro ⟨b, c, e, fz, q1, q2, q3, q4, q5⟩
        refine ⟨b, c, e, fz, by rw [shi r (by omega)]; exact q1, q2, by omega, q4, fun i hi2 => ?_⟩
        obtain ⟨u, u1, u2⟩ := q5 i (by omega)
        exact ⟨u, u1, conv (hcs i (by omega) hi2) u2⟩
  · -- different objects lie in different blocks
    have back : ∀ (q b : Nat), (σ'.take hb.length ++ σ'.drop (hb.length + junk.length))[q]? = some (some b) → (hb ++ rows2)[q]? ≠ some .dead →
        ∃ q', σ'[q']? = some (some b) ∧ (hb ++ (junk ++ rows1))[q']? ≠ some .dead ∧ ((q < hb.length ∧ q' = q) ∨ (hb.length ≤ q ∧ q' = q + junk.length)) := by
      intro q b e1 e2
      by_cases hq : q < hb.length
      · exact ⟨q, by rw [← slo q hq]; exact e1, by rw [← hlo q hq]; exact e2, .inl ⟨hq, rfl⟩⟩
      · refine ⟨q + junk.length, by rw [← shi q (by omega)]; exact e1, fun e3 => ?_, .inr ⟨by omega, rfl⟩⟩
        have hql : q < (hb ++ rows2).length := by
          apply Decidable.byContradiction
          intro hn'
          rw [List.getElem?_eq_none (by simp at hn' ⊢; omega)] at e1
          cases e1
        obtain ⟨x, x1, x2⟩ := hren q _ (by omega) (List.getElem?_eq_getElem hql)
        rw [e3] at x1
        cases x1
        have hm : (hb ++ rows2)[q]? = some ((hb ++ rows2)[q]) := List.getElem?_eq_getElem hql
        generalize (hb ++ rows2)[q] = y at x2 hm
        cases x2
        exact e2 hm
    obtain ⟨q1, a1, a2, a3⟩ := back r b e1 e3
    obtain ⟨q2, b1, b2, b3⟩ := back r' b e2 e4
    have := hi'.inj q1 q2 b a1 b1 a2 b2
    omega
  · refine ⟨hst.os, hst.tape, hst.output, hst.size, hst.block, hst.cell, fun b o ho => hst.owns b o (hown b o ho), hst.shape, ⟨by simp; omega, fun r hr hb' => ?_, fun r m hr hm => ?_⟩⟩
    · obtain ⟨m1, m2⟩ := hst.mono.sig r hr hb'
      exact ⟨by rw [slo r (by omega)]; exact m1, fun m => by rw [hlo r (by omega)]; exact m2 m⟩
    · rw [hlo r (by omega)] at hm
      rw [slo r (by omega)]
      exact hst.mono.buf r m hr hm
/-- THE OBJECTS 'junk' ARE LEFT OUT. hb: the heap ahead of them. -/
theorem Meets.compactAt {P : Program} {f : FuncId} {args : List D} {h hb junk rows1 rows2 : Hp} {d1 d2 : D} (hbl : h.length ≤ hb.length) (hcl : ∀ (r : Nat) x, hb[r]? = some x → h[r]? = some x ∨ ObCl hb.length x) (hd : Ren hb.length junk.length d1 d2)
    (hl : rows2.length = rows1.length) (hr : ∀ j (h1 : j < rows1.length) (h2 : j < rows2.length), RenOb hb.length junk.length (rows1[j]) (rows2[j])) (H : Meets P f args h fun d h' => d = d1 ∧ h' = hb ++ (junk ++ rows1)) :
    Meets P f args h fun d h' => d = d2 ∧ h' = hb ++ rows2 := by
  refine ⟨H.1, fun w σ vs hi hrep => (H.2 w σ vs hi hrep).mono ?_⟩
  rintro e w' ⟨v, he, _, _, σ', ⟨rfl, rfl⟩, hi', hd', hst⟩
  have hcl' : ∀ (r : Nat) x, hb[r]? = some x → ObCl hb.length x := fun r x hx => by
    rcases hcl r x hx with q | q
    · exact (hi.cl q).mono' hbl
    · exact q
  obtain ⟨σ2, g1, g2, _, g4⟩ := compact_core hi' hcl' hl hr
  exact ⟨v, he, d2, hb ++ rows2, σ2, ⟨rfl, rfl⟩, g1, g2 hd hd', g4 w σ h hbl hst⟩
theorem Meets.compact {P : Program} {f : FuncId} {args : List D} {h hb junk rows1 rows2 : Hp} {d1 d2 : D} (hbl : hb.length = h.length) (hcl : ∀ (r : Nat) x, hb[r]? = some x → h[r]? = some x ∨ ObCl h.length x) (hd : Ren h.length junk.length d1 d2)
    (hl : rows2.length = rows1.length) (hr : ∀ j (h1 : j < rows1.length) (h2 : j < rows2.length), RenOb h.length junk.length (rows1[j]) (rows2[j])) (H : Meets P f args h fun d h' => d = d1 ∧ h' = hb ++ (junk ++ rows1)) :
    Meets P f args h fun d h' => d = d2 ∧ h' = hb ++ rows2 := by
  have := Meets.compactAt (P := P) (f := f) (args := args) (h := h) (hb := hb) (junk := junk) (rows1 := rows1) (rows2 := rows2) (d1 := d1) (d2 := d2) (by omega) (by rw [hbl]; exact hcl) (by rw [hbl]; exact hd) hl (by rw [hbl]; exact hr) H
  exact this
end Go.Av

/- Rows that nobody reads any more may be told dead. -/
namespace Go.Av
set_option linter.unusedSectionVars false
variable [Start]

/-- as h, but some rows are dead -/
def Dies (h h' : Hp) : Prop := h'.length = h.length ∧ ∀ r : Nat, h'[r]? = h[r]? ∨ (h'[r]? = some .dead ∧ ∃ cs, h[r]? = some (.row cs))

omit [Start] in
theorem Dies.osub {σ : Sg} {h h' : Hp} (K : Dies h h') (b o : Nat) (H : own σ h' b o) : own σ h b o := by
  obtain ⟨r, h1, h2⟩ := H
  refine ⟨r, h1, ?_⟩
  rcases K.2 r with e | ⟨e, _⟩
  · rwa [e] at h2
  · rw [e] at h2
    rcases h2 with ⟨_, h2⟩ | ⟨_, h2, _⟩ <;> cases h2
omit [Start] in
theorem Dies.mono {σ : Sg} {h h' : Hp} (K : Dies h h') : MonoH σ h σ h' := by
  refine ⟨Nat.le_of_eq K.1.symm, fun r _ hb => ⟨rfl, fun n e => ?_⟩, fun r n _ e => .inl ⟨?_, rfl⟩⟩
  · rcases K.2 r with q | ⟨q, _⟩
    · exact hb n (q ▸ e)
    · rw [q] at e; cases e
  · rcases K.2 r with q | ⟨q, _⟩
    · rw [← q]; exact e
    · rw [q] at e; cases e
omit [Start] in
theorem Dies.rep {w : World} {σ : Sg} {h h' : Hp} (K : Dies h h') {d : D} {v : Value} (H : Rep w (own σ h) σ h d v) : Rep w (own σ h') σ h' d v :=
  H.mono ⟨fun _ _ _ _ hc => hc, fun b o _ ho ho' => ho (K.osub b o ho'), fun _ c _ _ hb => ⟨c, hb, rfl⟩⟩ K.mono
theorem Dies.inv {w : World} {σ : Sg} {h h' : Hp} (K : Dies h h') (hi : Inv w σ h) : Inv w σ h' := by
  refine ⟨hi.kept.sub fun b o => K.osub b o, by rw [hi.len, K.1], hi.lt, fun r cs e => ⟨?_⟩, fun r r' b h1 h2 h3 h4 => hi.inj r r' b h1 h2 (fun q => ?_) (fun q => ?_)⟩
  · rcases K.2 r with q | ⟨q, _⟩
    · rw [q] at e
      refine (hi.live r cs e).cells.imp id ?_
      rintro ⟨b, c, ee, fz, a1, a2, a3, a4, a5⟩
      refine ⟨b, c, ee, fz, a1, a2, a3, a4, fun i hi2 => ?_⟩
      obtain ⟨u, u1, u2⟩ := a5 i hi2
      exact ⟨u, u1, K.rep u2⟩
    · rw [q] at e; cases e
  · rcases K.2 r with e | ⟨_, _, e⟩
    · exact h3 (e.trans q)
    · rw [q] at e; cases e
  · rcases K.2 r' with e | ⟨_, _, e⟩
    · exact h4 (e.trans q)
    · rw [q] at e; cases e
theorem Dies.step {w w' : World} {σ σ' : Sg} {h0 h h' : Hp} (K : Dies h h') (H : Step w σ h0 w' σ' h) : Step w σ h0 w' σ' h' :=
  ⟨H.os, H.tape, H.output, H.size, H.block, H.cell, fun b o ho => H.owns b o (K.osub b o ho), H.shape, H.mono.trans K.mono⟩
/-- ROWS THAT NOBODY READS ANY MORE ARE DEAD. -/
theorem Meets.kill {P : Program} {f : FuncId} {args : List D} {h g g' : Hp} {d : D} (K : Dies g g') (H : Meets P f args h fun d' h' => d' = d ∧ h' = g) : Meets P f args h fun d' h' => d' = d ∧ h' = g' := by
  refine ⟨H.1, fun w σ vs hi hrep => (H.2 w σ vs hi hrep).mono ?_⟩
  rintro e w' ⟨v, he, _, _, σ', ⟨rfl, rfl⟩, hi', hd', hst⟩
  exact ⟨v, he, _, g', σ', ⟨rfl, rfl⟩, K.inv hi', K.rep hd', K.step hst⟩
omit [Start] in
theorem Dies.refl (h : Hp) : Dies h h := ⟨rfl, fun _ => .inl rfl⟩
omit [Start] in
theorem Dies.app {a a' b b' : Hp} (H : Dies a a') (K : Dies b b') : Dies (a ++ b) (a' ++ b') := by
  refine ⟨by rw [List.length_append, List.length_append, H.1, K.1], fun r => ?_⟩
  by_cases hr : r < a.length
  · rw [List.getElem?_append_left hr, List.getElem?_append_left (by rw [H.1]; exact hr)]
    exact H.2 r
  · have e := H.1
    rw [List.getElem?_append_right (by omega), List.getElem?_append_right (by omega), e]
    exact K.2 _
omit [Start] in
theorem Dies.row (cs : List D) : Dies [.row cs] [.dead] := ⟨rfl, fun r => by
  cases r with
  | zero => exact .inr ⟨rfl, cs, rfl⟩
  | succ r => exact .inl rfl⟩
end Go.Av
