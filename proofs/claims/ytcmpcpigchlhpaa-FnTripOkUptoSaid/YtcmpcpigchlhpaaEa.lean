/- Data of Go programs as plain Lean terms, and how the model's values read as them. -/
import Derived.WalkKit
import Derived.Orders

namespace Go.Av
set_option linter.unusedSectionVars false

/-- What a slice value may still be used for: nothing, it is full, or it ends where its buffer's used part ends. -/
inductive Tok where
  | no | full | buf (r sz : Nat) | cap (c : Nat)
/-- What the capacity is, where a token tells it. -/
def CapOk : Tok → Nat → Nat → Prop
  | .full, n, c => c = n
  | .cap m, _, c => c = m
  | _, _, _ => True

inductive D where
  | int (k : IntKind) (n : Int)
  | bool (b : Bool)
  | str (s : List UInt8)
  | slice (es : List D) (t : Tok)
  | vec (r : Nat) (ag : Bool) (sz off len cp : Nat)
  | agg (cs : List D)
  | tup (vs : List D)
  | ptr (r off : Nat)
  | vptr (cs : List D)
  | nilptr
  | fn (f : FuncId) (caps : List D)
  | nilfn
  | nilif
  | iface (t : TypeId) (d : D)
  | when (c : Bool) (d : D)
  | junk

instance : Inhabited D := ⟨.junk⟩

def D.cells : D → List D
  | .agg cs => cs
  | d => [d]

def flat (es : List D) : List D := es.flatMap D.cells

/-- The abstract heap's objects: gone; a row of cells that may be written; a buffer of which n cells are used. -/
inductive Ob where
  | dead
  | row (cs : List D)
  | buf (n : Nat)

abbrev Hp := List Ob
abbrev Sg := List (Option Nat)

def lenMax : Nat := 1073741824

def own (σ : Sg) (h : Hp) (b off : Nat) : Prop :=
  ∃ r : Nat, σ[r]? = some (some b) ∧ ((∃ cs, h[r]? = some (Ob.row cs)) ∨ ∃ n, h[r]? = some (Ob.buf n) ∧ n ≤ off)

def notBuf (h : Hp) (r : Nat) : Prop := ∀ n, h[r]? ≠ some (.buf n)

def thawed (fz : Nat × Nat) (i : Nat) : Prop := (fz.1 ≤ i && i < fz.2) = false

/-- What a slice with a token may rely on. -/
def TokOk (w : World) (σ : Sg) (h : Hp) (r sz nc len : Nat) (a : Option Addr) (cap : Nat) : Prop :=
  r < h.length ∧ nc = len * sz ∧ ∀ n, h[r]? = some (.buf n) → nc ≤ n ∧ (nc = n → cap = len ∨
    ∃ b c e fz, a = some ⟨b, 0, none⟩ ∧ σ[r]? = some (some b) ∧ w.heap[b]? = some (.cells c e fz) ∧ cap * sz ≤ c.size ∧
      ∀ i, i < cap * sz → thawed fz i)

inductive Rep (w : World) (ow : Nat → Nat → Prop) : Sg → Hp → D → Value → Prop where
  | int {σ h} (k : IntKind) (n : Int) : Rep w ow σ h (.int k n) (.int k n)
  | bool {σ h} (b : Bool) : Rep w ow σ h (.bool b) (.bool b)
  | str {σ h} (s : List UInt8) (hl : s.length ≤ lenMax) : Rep w ow σ h (.str s) (.string ⟨s.toArray⟩)
  | slice {σ h} (es : List D) (t : Tok) (a : Option Addr) (cap : Nat) (vs : Nat → Value)
      (hlen : es.length ≤ lenMax) (hcap : es.length ≤ cap) (hfull : CapOk t es.length cap)
      (htok : ∀ r sz, t = .buf r sz → TokOk w σ h r sz (flat es).length es.length a cap)
      (hc : ∀ k, k < (flat es).length → ∃ b o, a = some ⟨b, o, none⟩ ∧ ¬ ow b (o + k) ∧ w.cell? ⟨b, o + k, none⟩ = some (vs k))
      (hr : ∀ k (hk : k < (flat es).length), Rep w ow [] [] ((flat es)[k]) (vs k)) :
      Rep w ow σ h (.slice es t) (.slice a es.length cap)
  | vec {σ h} (r : Nat) (ag : Bool) (sz off len cp : Nat) (a : Option Addr) (cap : Nat) (hlen : cp ≤ lenMax) (hcap : len ≤ cp ∧ cp ≤ cap) (hr : r < h.length) (hb : notBuf h r)
      (hv : cap = 0 ∨ ∃ b c e fz, a = some ⟨b, off * sz, none⟩ ∧ σ[r]? = some (some b) ∧ w.heap[b]? = some (.cells c e fz) ∧ (off + cap) * sz ≤ c.size) :
      Rep w ow σ h (.vec r ag sz off len cp) (.slice a len cap)
  | agg {σ h} (cs : List D) (vs : List Value) (hl : vs.length = cs.length) (hr : ∀ k (h1 : k < cs.length) (h2 : k < vs.length), Rep w ow σ h (cs[k]) (vs[k])) :
      Rep w ow σ h (.agg cs) (.agg vs.toArray)
  | tup {σ h} (cs : List D) (vs : List Value) (hl : vs.length = cs.length) (hr : ∀ k (h1 : k < cs.length) (h2 : k < vs.length), Rep w ow σ h (cs[k]) (vs[k])) :
      Rep w ow σ h (.tup cs) (.tuple vs.toArray)
  | ptr {σ h} (r off b : Nat) (hr : r < h.length) (hb : notBuf h r) (hs : σ[r]? = some (some b)) : Rep w ow σ h (.ptr r off) (.pointer (some ⟨b, off, none⟩))
  | vptr {σ h} (cs : List D) (b o : Nat) (vs : Nat → Value)
      (hc : ∀ k, k < cs.length → ¬ ow b (o + k) ∧ w.cell? ⟨b, o + k, none⟩ = some (vs k))
      (hr : ∀ k (hk : k < cs.length), Rep w ow [] [] (cs[k]) (vs k)) :
      Rep w ow σ h (.vptr cs) (.pointer (some ⟨b, o, none⟩))
  | nilptr {σ h} : Rep w ow σ h .nilptr (.pointer none)
  | fn {σ h} (f : FuncId) (cs : List D) (vs : List Value) (hl : vs.length = cs.length) (hr : ∀ k (h1 : k < cs.length) (h2 : k < vs.length), Rep w ow σ h (cs[k]) (vs[k])) :
      Rep w ow σ h (.fn f cs) (.func (.func f) #[] vs.toArray)
  | nilfn {σ h} : Rep w ow σ h .nilfn .nilFunc
  | nilif {σ h} : Rep w ow σ h .nilif .nilIface
  | iface {σ h} (t : TypeId) (d : D) (v : Value) (hr : Rep w ow σ h d v) : Rep w ow σ h (.iface t d) (.iface t v)
  | junk {σ h} (v : Value) : Rep w ow σ h .junk v
  | off {σ h} (d : D) : Rep w ow σ h (.when false d) undef
  | on {σ h} (d : D) (v : Value) (hr : Rep w ow σ h d v) : Rep w ow σ h (.when true d) v

/-- What a step of a run keeps of the memory that is not owned. -/
structure MonoW (w : World) (ow : Nat → Nat → Prop) (w' : World) (ow' : Nat → Nat → Prop) : Prop where
  cell : ∀ b o v, ¬ ow b o → w.cell? ⟨b, o, none⟩ = some v → w'.cell? ⟨b, o, none⟩ = some v
  nown : ∀ b o, b < w.heap.size → ¬ ow b o → ¬ ow' b o
  shape : ∀ (b : Nat) c e fz, w.heap[b]? = some (.cells c e fz) → ∃ c', w'.heap[b]? = some (.cells c' e fz) ∧ c'.size = c.size

/-- What it keeps of the objects. -/
structure MonoH (σ : Sg) (h : Hp) (σ' : Sg) (h' : Hp) : Prop where
  len : h.length ≤ h'.length
  sig : ∀ r : Nat, r < h.length → notBuf h r → σ'[r]? = σ[r]? ∧ notBuf h' r
  buf : ∀ (r n : Nat), r < h.length → h'[r]? = some (.buf n) → (h[r]? = some (.buf n) ∧ σ'[r]? = σ[r]?) ∨ ∃ m, m < n ∧ h[r]? = some (.buf m)

theorem MonoH.nil : MonoH [] [] [] [] := ⟨Nat.le_refl _, fun r hr => absurd hr (by simp), fun r n hr => absurd hr (by simp)⟩

theorem lt_of_cell {w : World} {b o : Nat} {v : Value} (h : w.cell? ⟨b, o, none⟩ = some v) : b < w.heap.size := World.block_lt_of_cell? (w := w) (a := ⟨b, o, none⟩) h

theorem TokOk.mono {w w' : World} {ow ow' : Nat → Nat → Prop} {σ σ' : Sg} {h h' : Hp} {r sz nc len : Nat} {a : Option Addr} {cap : Nat} (hw : MonoW w ow w' ow') (hh : MonoH σ h σ' h')
    (H : TokOk w σ h r sz nc len a cap) : TokOk w' σ' h' r sz nc len a cap := by
  obtain ⟨h1, h2, h3⟩ := H
  refine ⟨Nat.lt_of_lt_of_le h1 hh.len, h2, fun n hn => ?_⟩
  rcases hh.buf r n h1 hn with ⟨g1, g2⟩ | ⟨m, g1, g2⟩
  · obtain ⟨k1, k2⟩ := h3 n g1
    refine ⟨k1, fun e => ?_⟩
    rcases k2 e with k | ⟨b, c, e, fz, q1, q2, q3, q4, q5⟩
    · exact .inl k
    · obtain ⟨c', p1, p2⟩ := hw.shape b c e fz q3
      exact .inr ⟨b, c', e, fz, q1, g2 ▸ q2, p1, p2 ▸ q4, q5⟩
  · obtain ⟨k1, _⟩ := h3 m g2
    exact ⟨by omega, fun e => absurd e (by omega)⟩

theorem Rep.mono {w w' : World} {ow ow' : Nat → Nat → Prop} (hw : MonoW w ow w' ow') {σ : Sg} {h : Hp} {d : D} {v : Value} (H : Rep w ow σ h d v) :
    ∀ {σ' : Sg} {h' : Hp}, MonoH σ h σ' h' → Rep w' ow' σ' h' d v := by
  induction H with
  | int k n => exact fun _ => .int k n
  | bool b => exact fun _ => .bool b
  | str s hl => exact fun _ => .str s hl
  | slice es t a cap vs hlen hcap hfull htok hc hr ih =>
    intro σ' h' hh
    refine .slice es t a cap vs hlen hcap hfull (fun r sz e => (htok r sz e).mono hw hh) (fun k hk => ?_) (fun k hk => ih k hk MonoH.nil)
    obtain ⟨b, o, h1, h2, h3⟩ := hc k hk
    exact ⟨b, o, h1, hw.nown _ _ (lt_of_cell h3) h2, hw.cell _ _ _ h2 h3⟩
  | vec r ag sz off len cp a cap hlen hcap hr hb hv =>
    intro σ' h' hh
    refine .vec r ag sz off len cp a cap hlen hcap (Nat.lt_of_lt_of_le hr hh.len) (hh.sig r hr hb).2 ?_
    rcases hv with hv | ⟨b, c, e, fz, q1, q2, q3, q4⟩
    · exact .inl hv
    · obtain ⟨c', p1, p2⟩ := hw.shape b c e fz q3
      exact .inr ⟨b, c', e, fz, q1, (hh.sig r hr hb).1 ▸ q2, p1, p2 ▸ q4⟩
  | agg cs vs hl hr ih => exact fun hh => .agg cs vs hl (fun k h1 h2 => ih k h1 h2 hh)
  | tup cs vs hl hr ih => exact fun hh => .tup cs vs hl (fun k h1 h2 => ih k h1 h2 hh)
  | ptr r off b hr hb hs => exact fun hh => .ptr r off b (Nat.lt_of_lt_of_le hr hh.len) (hh.sig r hr hb).2 ((hh.sig r hr hb).1 ▸ hs)
  | vptr cs b o vs hc hr ih =>
    intro σ' h' _
    exact .vptr cs b o vs (fun k hk => ⟨hw.nown _ _ (lt_of_cell (hc k hk).2) (hc k hk).1, hw.cell _ _ _ (hc k hk).1 (hc k hk).2⟩) (fun k hk => ih k hk MonoH.nil)
  | nilptr => exact fun _ => .nilptr
  | fn f cs vs hl hr ih => exact fun hh => .fn f cs vs hl (fun k h1 h2 => ih k h1 h2 hh)
  | nilfn => exact fun _ => .nilfn
  | nilif => exact fun _ => .nilif
  | iface t d v hr ih => exact fun hh => .iface t d v (ih hh)
  | junk v => exact fun _ => .junk v
  | off d => exact fun _ => .off d
  | on d v hr ih => exact fun hh => .on d v (ih hh)

/-! ### The relation of a world to a heap -/

structure Live (w : World) (σ : Sg) (h : Hp) (r : Nat) (cs : List D) : Prop where
  cells : (cs = [] ∧ ∀ b : Nat, σ[r]? ≠ some (some b)) ∨ ∃ b c e fz, σ[r]? = some (some b) ∧ w.heap[b]? = some (.cells c e fz) ∧ cs.length ≤ c.size ∧ (∀ i, i < c.size → thawed fz i) ∧
    ∀ i (hi : i < cs.length), ∃ v, c[i]? = some v ∧ Rep w (own σ h) σ h (cs[i]) v

/-- The world at the start: what lies in it stays as it is. -/
class Start where
  w0 : World
structure Kept [Start] (w : World) (σ : Sg) (h : Hp) : Prop where
  size : Start.w0.heap.size ≤ w.heap.size
  same : ∀ b : Nat, b < Start.w0.heap.size → w.heap[b]? = Start.w0.heap[b]?
  free : ∀ b o, own σ h b o → Start.w0.heap.size ≤ b

structure Inv [Start] (w : World) (σ : Sg) (h : Hp) : Prop where
  kept : Kept w σ h
  len : σ.length = h.length
  lt : ∀ (r b : Nat), σ[r]? = some (some b) → b < w.heap.size
  live : ∀ (r : Nat) cs, h[r]? = some (.row cs) → Live w σ h r cs
  inj : ∀ (r r' b : Nat), σ[r]? = some (some b) → σ[r']? = some (some b) → h[r]? ≠ some .dead → h[r']? ≠ some .dead → r = r'

/-- What has become of the world and the objects behind a step. -/
structure Step (w : World) (σ : Sg) (h : Hp) (w' : World) (σ' : Sg) (h' : Hp) : Prop where
  os : w'.os = w.os
  tape : w'.tape = w.tape
  output : w'.output = w.output
  size : w.heap.size ≤ w'.heap.size
  block : ∀ b : Nat, b < w.heap.size → (∀ o, ¬ own σ h b o) → w'.heap[b]? = w.heap[b]?
  cell : ∀ b o v, ¬ own σ h b o → w.cell? ⟨b, o, none⟩ = some v → w'.cell? ⟨b, o, none⟩ = some v
  owns : ∀ b o, own σ' h' b o → own σ h b o ∨ w.heap.size ≤ b
  shape : ∀ (b : Nat) c e fz, w.heap[b]? = some (.cells c e fz) → ∃ c', w'.heap[b]? = some (.cells c' e fz) ∧ c'.size = c.size
  mono : MonoH σ h σ' h'

theorem MonoH.refl (σ : Sg) (h : Hp) : MonoH σ h σ h := ⟨Nat.le_refl _, fun _ _ hb => ⟨rfl, hb⟩, fun _ _ _ hb => .inl ⟨hb, rfl⟩⟩

theorem MonoH.trans {σ σ' σ'' : Sg} {h h' h'' : Hp} (H : MonoH σ h σ' h') (K : MonoH σ' h' σ'' h'') : MonoH σ h σ'' h'' := by
  refine ⟨Nat.le_trans H.len K.len, fun r hr hb => ?_, fun r n hr hn => ?_⟩
  · obtain ⟨a1, a2⟩ := H.sig r hr hb
    obtain ⟨b1, b2⟩ := K.sig r (Nat.lt_of_lt_of_le hr H.len) a2
    exact ⟨b1.trans a1, b2⟩
  · rcases K.buf r n (Nat.lt_of_lt_of_le hr H.len) hn with ⟨a1, a2⟩ | ⟨m, a1, a2⟩
    · rcases H.buf r n hr a1 with ⟨b1, b2⟩ | ⟨m, b1, b2⟩
      · exact .inl ⟨b1, a2.trans b2⟩
      · exact .inr ⟨m, b1, b2⟩
    · rcases H.buf r m hr a2 with ⟨b1, b2⟩ | ⟨m', b1, b2⟩
      · exact .inr ⟨m, a1, b1⟩
      · exact .inr ⟨m', by omega, b2⟩

theorem Step.refl (w : World) (σ : Sg) (h : Hp) : Step w σ h w σ h :=
  ⟨rfl, rfl, rfl, Nat.le_refl _, fun _ _ _ => rfl, fun _ _ _ _ hc => hc, fun _ _ ho => .inl ho, fun _ c _ _ hb => ⟨c, hb, rfl⟩, .refl σ h⟩

theorem Step.trans {w w' w'' : World} {σ σ' σ'' : Sg} {h h' h'' : Hp} (H : Step w σ h w' σ' h') (K : Step w' σ' h' w'' σ'' h'') : Step w σ h w'' σ'' h'' := by
  have hn : ∀ b o, b < w.heap.size → ¬ own σ h b o → ¬ own σ' h' b o := fun b o hb ho ho' => by
    rcases H.owns b o ho' with q | q
    · exact ho q
    · omega
  refine ⟨K.os.trans H.os, K.tape.trans H.tape, K.output.trans H.output, Nat.le_trans H.size K.size, fun b hb ho => ?_, fun b o v ho hc => ?_, fun b o ho => ?_, fun b c e fz hb => ?_, H.mono.trans K.mono⟩
  · rw [K.block b (Nat.lt_of_lt_of_le hb H.size) (fun o => hn b o hb (ho o)), H.block b hb ho]
  · exact K.cell b o v (hn b o (lt_of_cell hc) ho) (H.cell b o v ho hc)
  · rcases K.owns b o ho with q | q
    · exact H.owns b o q
    · exact .inr (Nat.le_trans H.size q)
  · obtain ⟨c', p1, p2⟩ := H.shape b c e fz hb
    obtain ⟨c'', q1, q2⟩ := K.shape b c' e fz p1
    exact ⟨c'', q1, q2.trans p2⟩

theorem Kept.step [Start] {w w' : World} {σ σ' : Sg} {h h' : Hp} (H : Kept w σ h) (K : Step w σ h w' σ' h') : Kept w' σ' h' := by
  refine ⟨Nat.le_trans H.size K.size, fun b hb => ?_, fun b o ho => ?_⟩
  · exact (K.block b (Nat.lt_of_lt_of_le hb H.size) (fun o ho => Nat.lt_irrefl _ (Nat.lt_of_lt_of_le hb (H.free b o ho)))).trans (H.same b hb)
  · rcases K.owns b o ho with q | q
    · exact H.free b o q
    · exact Nat.le_trans H.size q
theorem Kept.sub [Start] {w : World} {σ σ' : Sg} {h h' : Hp} (H : Kept w σ h) (hs : ∀ b o, own σ' h' b o → own σ h b o) : Kept w σ' h' := ⟨H.size, H.same, fun b o ho => H.free b o (hs b o ho)⟩

theorem Step.monoW {w w' : World} {σ σ' : Sg} {h h' : Hp} (H : Step w σ h w' σ' h') : MonoW w (own σ h) w' (own σ' h') :=
  ⟨H.cell, fun b o hb ho ho' => by
    rcases H.owns b o ho' with q | q
    · exact ho q
    · omega, H.shape⟩

theorem Rep.step {w w' : World} {σ σ' : Sg} {h h' : Hp} {d : D} {v : Value} (H : Rep w (own σ h) σ h d v) (K : Step w σ h w' σ' h') : Rep w' (own σ' h') σ' h' d v :=
  H.mono K.monoW K.mono

end Go.Av

/- Weaker data, data that name only the first n objects, and forgetting the objects behind them. -/
namespace Go.Av
set_option linter.unusedSectionVars false

/-- d may be read as d' -/
inductive Wk : D → D → Prop where
  | refl (d : D) : Wk d d
  | tok (es : List D) (t : Tok) : Wk (.slice es t) (.slice es .no)
  | junk (d : D) : Wk d .junk
  | vec (r : Nat) (ag : Bool) (sz off len cp cp' : Nat) (h1 : len ≤ cp') (h2 : cp' ≤ cp) : Wk (.vec r ag sz off len cp) (.vec r ag sz off len cp')
  | agg (cs cs' : List D) (hl : cs'.length = cs.length) (h : ∀ k (h1 : k < cs.length) (h2 : k < cs'.length), Wk (cs[k]) (cs'[k])) : Wk (.agg cs) (.agg cs')
  | tup (cs cs' : List D) (hl : cs'.length = cs.length) (h : ∀ k (h1 : k < cs.length) (h2 : k < cs'.length), Wk (cs[k]) (cs'[k])) : Wk (.tup cs) (.tup cs')

theorem Rep.wk {w : World} {ow : Nat → Nat → Prop} {d d' : D} (K : Wk d d') : ∀ {σ : Sg} {h : Hp} {v : Value}, Rep w ow σ h d v → Rep w ow σ h d' v := by
  induction K with
  | refl d => exact fun H => H
  | tok es t =>
    intro σ h v H
    cases H with
    | slice _ _ a cap vs hlen hcap hfull htok hc hr => exact .slice es .no a cap vs hlen hcap trivial (fun _ _ e => nomatch e) hc hr
  | junk d => exact fun _ => .junk _
  | vec r ag sz off len cp cp' h1 h2 =>
    intro σ h v H
    cases H with
    | vec _ _ _ _ _ _ a cap hlen hcap hr hb hv => exact .vec r ag sz off len cp' a cap (Nat.le_trans h2 hlen) ⟨h1, Nat.le_trans h2 hcap.2⟩ hr hb hv
  | agg cs cs' hl _ ih =>
    intro σ h v H
    cases H with
    | agg _ vs hl' hr => exact .agg cs' vs (by omega) (fun k h1 h2 => ih k (by omega) h1 (hr k (by omega) h2))
  | tup cs cs' hl _ ih =>
    intro σ h v H
    cases H with
    | tup _ vs hl' hr => exact .tup cs' vs (by omega) (fun k h1 h2 => ih k (by omega) h1 (hr k (by omega) h2))

/-- d names only the first n objects -/
inductive Cl (n : Nat) : D → Prop where
  | int (k : IntKind) (i : Int) : Cl n (.int k i)
  | bool (b : Bool) : Cl n (.bool b)
  | str (s : List UInt8) : Cl n (.str s)
  | slice (es : List D) (t : Tok) (h : ∀ r sz, t = .buf r sz → r < n) : Cl n (.slice es t)
  | vec (r : Nat) (ag : Bool) (sz off len cp : Nat) (h : r < n) : Cl n (.vec r ag sz off len cp)
  | agg (cs : List D) (h : ∀ c, c ∈ cs → Cl n c) : Cl n (.agg cs)
  | tup (cs : List D) (h : ∀ c, c ∈ cs → Cl n c) : Cl n (.tup cs)
  | ptr (r off : Nat) (h : r < n) : Cl n (.ptr r off)
  | vptr (cs : List D) : Cl n (.vptr cs)
  | nilptr : Cl n .nilptr
  | fn (f : FuncId) (cs : List D) (h : ∀ c, c ∈ cs → Cl n c) : Cl n (.fn f cs)
  | nilfn : Cl n .nilfn
  | nilif : Cl n .nilif
  | iface (t : TypeId) (d : D) (h : Cl n d) : Cl n (.iface t d)
  | when (c : Bool) (d : D) (h : c = true → Cl n d) : Cl n (.when c d)
  | junk : Cl n .junk

theorem Rep.cl {w : World} {ow : Nat → Nat → Prop} {σ : Sg} {h : Hp} {d : D} {v : Value} (H : Rep w ow σ h d v) : Cl h.length d := by
  induction H with
  | int k n => exact .int k n
  | bool b => exact .bool b
  | str s hl => exact .str s
  | slice es t a cap vs hlen hcap hfull htok hc hr ih => exact .slice es t fun r sz e => (htok r sz e).1
  | vec r ag sz off len cp a cap hlen hcap hr hb hv => exact .vec r ag sz off len cp hr
  | agg cs vs hl hr ih => 
    refine .agg cs fun c hc => ?_
    obtain ⟨k, hk, rfl⟩ := List.mem_iff_getElem.1 hc
    exact ih k hk (by omega)
  | tup cs vs hl hr ih => 
    refine .tup cs fun c hc => ?_
    obtain ⟨k, hk, rfl⟩ := List.mem_iff_getElem.1 hc
    exact ih k hk (by omega)
  | ptr r off b hr hb hs => exact .ptr r off hr
  | vptr cs b o vs hc hr ih => exact .vptr cs
  | nilptr => exact .nilptr
  | fn f cs vs hl hr ih => 
    refine .fn f cs fun c hc => ?_
    obtain ⟨k, hk, rfl⟩ := List.mem_iff_getElem.1 hc
    exact ih k hk (by omega)
  | nilfn => exact .nilfn
  | nilif => exact .nilif
  | iface t d v hr ih => exact .iface t d ih
  | junk v => exact .junk
  | off d => exact .when _ _ (fun e => nomatch e)
  | on d v hr ih => exact .when _ _ (fun _ => ih)

theorem Cl.mono {n m : Nat} (hm : n ≤ m) {d : D} (H : Cl n d) : Cl m d := by
  induction H with
  | int k n => exact .int k n
  | bool b => exact .bool b
  | str s => exact .str s
  | slice es t h => exact .slice es t fun r sz e => Nat.lt_of_lt_of_le (h r sz e) hm
  | vec r ag sz off len cp h => exact .vec r ag sz off len cp (Nat.lt_of_lt_of_le h hm)
  | agg cs h ih => exact .agg cs ih
  | tup cs h ih => exact .tup cs ih
  | ptr r off h => exact .ptr r off (Nat.lt_of_lt_of_le h hm)
  | vptr cs => exact .vptr cs
  | nilptr => exact .nilptr
  | fn f cs h ih => exact .fn f cs ih
  | nilfn => exact .nilfn
  | nilif => exact .nilif
  | iface t d h ih => exact .iface t d ih
  | when c d h ih => exact .when c d ih
  | junk => exact .junk

/-- How a reading is carried to other objects that are, as far as it names them, the same. -/
theorem Rep.move {w : World} {ow ow' : Nat → Nat → Prop} (hw : ∀ b o, ow' b o → ow b o) {σ : Sg} {h : Hp} {d : D} {v : Value} (H : Rep w ow σ h d v) {n : Nat} :
    ∀ {σ' : Sg} {h' : Hp}, Cl n d → n ≤ h'.length → (∀ r, r < n → σ'[r]? = σ[r]? ∧ (notBuf h r → notBuf h' r) ∧ ∀ k, h'[r]? = some (.buf k) → h[r]? = some (.buf k)) → Rep w ow' σ' h' d v := by
  have hm : MonoW w ow w ow' := ⟨fun _ _ _ _ hc => hc, fun b o _ ho ho' => ho (hw b o ho'), fun _ c _ _ hb => ⟨c, hb, rfl⟩⟩
  induction H with
  | int k n => exact fun _ _ _ => .int k n
  | bool b => exact fun _ _ _ => .bool b
  | str s hl => exact fun _ _ _ => .str s hl
  | slice es t a cap vs hlen hcap hfull htok hc hr ih =>
    intro σ' h' hcl hn hs
    refine .slice es t a cap vs hlen hcap hfull (fun r sz e => ?_) (fun k hk => ?_) (fun k hk => (hr k hk).mono hm MonoH.nil)
    · obtain ⟨h1, h2, h3⟩ := htok r sz e
      have hrn : r < n := by cases hcl with | slice _ _ h => exact h r sz e
      obtain ⟨s1, s2, s3⟩ := hs r hrn
      refine ⟨by omega, h2, fun k hk => ?_⟩
      obtain ⟨k1, k2⟩ := h3 k (s3 k hk)
      exact ⟨k1, fun e => (k2 e).imp id fun ⟨b, c, el, fz, q1, q2, q3⟩ => ⟨b, c, el, fz, q1, s1 ▸ q2, q3⟩⟩
    · obtain ⟨b, o, h1, h2, h3⟩ := hc k hk
      exact ⟨b, o, h1, fun ho => h2 (hw _ _ ho), h3⟩
  | vec r ag sz off len cp a cap hlen hcap hr hb hv =>
    intro σ' h' hcl hn hs
    have hrn : r < n := by cases hcl with | vec _ _ _ _ _ _ h => exact h
    obtain ⟨s1, s2, s3⟩ := hs r hrn
    exact .vec r ag sz off len cp a cap hlen hcap (by omega) (s2 hb) (hv.imp id fun ⟨b, c, el, fz, q1, q2, q3⟩ => ⟨b, c, el, fz, q1, s1 ▸ q2, q3⟩)
  | agg cs vs hl hr ih =>
    intro σ' h' hcl hn hs
    exact .agg cs vs hl (fun k h1 h2 => ih k h1 h2 (by cases hcl with | agg _ h => exact h _ (List.getElem_mem _)) hn hs)
  | tup cs vs hl hr ih =>
    intro σ' h' hcl hn hs
    exact .tup cs vs hl (fun k h1 h2 => ih k h1 h2 (by cases hcl with | tup _ h => exact h _ (List.getElem_mem _)) hn hs)
  | ptr r off b hr hb hs' =>
    intro σ' h' hcl hn hs
    have hrn : r < n := by cases hcl with | ptr _ _ h => exact h
    obtain ⟨s1, s2, s3⟩ := hs r hrn
    exact .ptr r off b (by omega) (s2 hb) (s1 ▸ hs')
  | vptr cs b o vs hc hr ih =>
    intro σ' h' hcl hn hs
    exact .vptr cs b o vs (fun k hk => ⟨fun ho => (hc k hk).1 (hw _ _ ho), (hc k hk).2⟩) (fun k hk => (hr k hk).mono hm MonoH.nil)
  | nilptr => exact fun _ _ _ => .nilptr
  | fn f cs vs hl hr ih =>
    intro σ' h' hcl hn hs
    exact .fn f cs vs hl (fun k h1 h2 => ih k h1 h2 (by cases hcl with | fn _ _ h => exact h _ (List.getElem_mem _)) hn hs)
  | nilfn => exact fun _ _ _ => .nilfn
  | nilif => exact fun _ _ _ => .nilif
  | iface t d v hr ih =>
    intro σ' h' hcl hn hs
    exact .iface t d v (ih (by cases hcl with | iface _ _ h => exact h) hn hs)
  | junk v => exact fun _ _ _ => .junk v
  | off d => exact fun _ _ _ => .off d
  | on d v hr ih =>
    intro σ' h' hcl hn hs
    exact .on d v (ih (by cases hcl with | when _ _ h => exact h rfl) hn hs)

theorem own_take {σ : Sg} {h : Hp} {n b o : Nat} (H : own (σ.take n) (h.take n) b o) : own σ h b o := by
  obtain ⟨r, h1, h2⟩ := H
  rw [List.getElem?_take] at h1 h2
  split at h1
  · rename_i hr
    refine ⟨r, h1, ?_⟩
    simpa [hr] using h2
  · simp at h1

theorem getElem?_take_lt {α : Type} {l : List α} {n r : Nat} (hr : r < n) : (l.take n)[r]? = l[r]? := by rw [List.getElem?_take, if_pos hr]

theorem Rep.take {w : World} {σ : Sg} {h : Hp} {d : D} {v : Value} {n : Nat} (H : Rep w (own σ h) σ h d v) (hc : Cl n d) (hn : n ≤ h.length) :
    Rep w (own (σ.take n) (h.take n)) (σ.take n) (h.take n) d v := by
  refine H.move (fun b o => own_take) hc (by simp; omega) (fun r hr => ⟨getElem?_take_lt hr, fun hb k => ?_, fun k => ?_⟩)
  · rw [getElem?_take_lt hr]; exact hb k
  · rw [getElem?_take_lt hr]; exact id

def ObCl (n : Nat) : Ob → Prop
  | .row cs => ∀ d, d ∈ cs → Cl n d
  | _ => True

theorem Inv.cl [Start] {w : World} {σ : Sg} {h : Hp} (H : Inv w σ h) {r : Nat} {ob : Ob} (hr : h[r]? = some ob) : ObCl h.length ob := by
  cases ob with
  | row cs =>
    intro d hd
    rcases (H.live r cs hr).cells with ⟨rfl, _⟩ | ⟨b, c, e, fz, _, _, _, _, hall⟩
    · simp at hd
    · obtain ⟨k, hk, rfl⟩ := List.mem_iff_getElem.1 hd
      obtain ⟨v, _, hv⟩ := hall k hk
      exact hv.cl
  | dead => trivial
  | buf n => trivial

theorem Inv.take [Start] {w : World} {σ : Sg} {h : Hp} (H : Inv w σ h) {n : Nat} (hn : n ≤ h.length) (hc : ∀ (r : Nat) ob, r < n → h[r]? = some ob → ObCl n ob) : Inv w (σ.take n) (h.take n) := by
  refine ⟨H.kept.sub fun b o ho => own_take ho, by simp [H.len], fun r b hr => ?_, fun r cs hr => ⟨?_⟩, fun r r' b h1 h2 h3 h4 => ?_⟩
  · rw [List.getElem?_take] at hr
    split at hr
    · exact H.lt r b hr
    · simp at hr
  · rw [List.getElem?_take] at hr
    split at hr
    · rename_i hrn
      rcases (H.live r cs hr).cells with q | ⟨b, c, e, fz, q1, q2, q3, q4, q5⟩
      · exact .inl ⟨q.1, fun b => by rw [getElem?_take_lt hrn]; exact q.2 b⟩
      · refine .inr ⟨b, c, e, fz, by rw [getElem?_take_lt hrn]; exact q1, q2, q3, q4, fun i hi => ?_⟩
        obtain ⟨v, v1, v2⟩ := q5 i hi
        exact ⟨v, v1, v2.take (hc r (.row cs) hrn hr _ (List.getElem_mem _)) hn⟩
    · simp at hr
  · rw [List.getElem?_take] at h1 h2
    split at h1
    · rename_i e1
      split at h2
      · rename_i e2
        rw [getElem?_take_lt e1] at h3
        rw [getElem?_take_lt e2] at h4
        exact H.inj r r' b h1 h2 h3 h4
      · simp at h2
    · simp at h1

theorem Step.take {w w' : World} {σ σ' : Sg} {h h' : Hp} (H : Step w σ h w' σ' h') {n : Nat} (hn : h.length ≤ n) (hn' : n ≤ h'.length) : Step w σ h w' (σ'.take n) (h'.take n) := by
  refine ⟨H.os, H.tape, H.output, H.size, H.block, H.cell, fun b o ho => H.owns b o (own_take ho), H.shape, ⟨by simp; omega, fun r hr hb => ?_, fun r k hr hk => ?_⟩⟩
  · obtain ⟨a1, a2⟩ := H.mono.sig r hr hb
    exact ⟨by rw [getElem?_take_lt (by omega)]; exact a1, fun k => by rw [getElem?_take_lt (by omega)]; exact a2 k⟩
  · rw [getElem?_take_lt (by omega)] at hk
    rw [getElem?_take_lt (by omega)]
    exact H.mono.buf r k hr hk

/-! ### What simp says of 'Wk' and 'Cl' -/
section
variable (n : Nat)
theorem cl_int (k : IntKind) (i : Int) : Cl n (.int k i) ↔ True := ⟨fun _ => trivial, fun _ => .int k i⟩
theorem cl_bool (b : Bool) : Cl n (.bool b) ↔ True := ⟨fun _ => trivial, fun _ => .bool b⟩
theorem cl_str (s : List UInt8) : Cl n (.str s) ↔ True := ⟨fun _ => trivial, fun _ => .str s⟩
theorem cl_no (es : List D) : Cl n (.slice es .no) ↔ True := ⟨fun _ => trivial, fun _ => .slice es .no (fun _ _ e => nomatch e)⟩
theorem cl_full (es : List D) : Cl n (.slice es .full) ↔ True := ⟨fun _ => trivial, fun _ => .slice es .full (fun _ _ e => nomatch e)⟩
theorem cl_buf (es : List D) (r sz : Nat) : Cl n (.slice es (.buf r sz)) ↔ r < n := ⟨fun h => by cases h with | slice _ _ h => exact h r sz rfl, fun h => .slice _ _ (fun _ _ e => by cases e; exact h)⟩
theorem cl_vec (r : Nat) (ag : Bool) (sz off len cp : Nat) : Cl n (.vec r ag sz off len cp) ↔ r < n := ⟨fun h => by cases h with | vec _ _ _ _ _ _ h => exact h, fun h => .vec _ _ _ _ _ _ h⟩
theorem cl_ptr (r off : Nat) : Cl n (.ptr r off) ↔ r < n := ⟨fun h => by cases h with | ptr _ _ h => exact h, fun h => .ptr _ _ h⟩
theorem cl_vptr (cs : List D) : Cl n (.vptr cs) ↔ True := ⟨fun _ => trivial, fun _ => .vptr cs⟩
theorem cl_nilptr : Cl n .nilptr ↔ True := ⟨fun _ => trivial, fun _ => .nilptr⟩
theorem cl_nilfn : Cl n .nilfn ↔ True := ⟨fun _ => trivial, fun _ => .nilfn⟩
theorem cl_nilif : Cl n .nilif ↔ True := ⟨fun _ => trivial, fun _ => .nilif⟩
theorem cl_junk : Cl n .junk ↔ True := ⟨fun _ => trivial, fun _ => .junk⟩
theorem cl_agg (cs : List D) : Cl n (.agg cs) ↔ ∀ c, c ∈ cs → Cl n c := ⟨fun h => by cases h with | agg _ h => exact h, fun h => .agg _ h⟩
theorem cl_tup (cs : List D) : Cl n (.tup cs) ↔ ∀ c, c ∈ cs → Cl n c := ⟨fun h => by cases h with | tup _ h => exact h, fun h => .tup _ h⟩
theorem cl_fn (f : FuncId) (cs : List D) : Cl n (.fn f cs) ↔ ∀ c, c ∈ cs → Cl n c := ⟨fun h => by cases h with | fn _ _ h => exact h, fun h => .fn _ _ h⟩
theorem cl_iface (t : TypeId) (d : D) : Cl n (.iface t d) ↔ Cl n d := ⟨fun h => by cases h with | iface _ _ h => exact h, fun h => .iface _ _ h⟩
theorem cl_when (c : Bool) (d : D) : Cl n (.when c d) ↔ (c = true → Cl n d) := ⟨fun h => by cases h with | when _ _ h => exact h, fun h => .when _ _ h⟩
end
end Go.Av

/- What a type's row says; operands; the operations that only read, as functions on data, and that the model's operations do just that. -/
namespace Go.Av
set_option linter.unusedSectionVars false

inductive TK where
  | other | bool | int (k : IntKind) | str | slice | arr | struct | ptr | func | iface

structure TI where
  has : Bool
  sz : Nat
  bs : Nat
  kind : TK
  elem : TypeId
  len : Nat
  offs : List (Nat × Nat)
  zero : List D

def ofVal : Value → D
  | .int k n => .int k n
  | .bool b => .bool b
  | .string s => if s.data.toList.length ≤ lenMax then .str s.data.toList else .junk
  | .slice none 0 0 => .slice [] .full
  | .pointer none => .nilptr
  | .nilFunc => .nilfn
  | .nilIface => .nilif
  | _ => .junk

def kindOf : TypeDesc → TK
  | .bool => .bool | .int k => .int k | .string => .str | .slice _ => .slice | .array _ _ => .arr | .struct _ => .struct | .pointer _ => .ptr | .func _ _ _ => .func | .interface _ => .iface
  | _ => .other
def elemOf : TypeDesc → TypeId
  | .slice e | .array _ e | .pointer e => e
  | _ => 0
def lenOf : TypeDesc → Nat
  | .array n _ => n
  | _ => 0
def offsOf (P : Program) : TypeDesc → List (Nat × Nat)
  | .struct fs => fs.toList.map fun f => (f.offset, P.cellsOf f.type)
  | _ => []
def zeroOf (i : TypeInfo) : List D := match i.zero with | some v => v.cells.toList.map ofVal | none => []

def ti (P : Program) (t : TypeId) : TI :=
  match P.info? t, P.underlying t with
  | some i, some d => { has := true, sz := i.size, bs := i.bytes, kind := kindOf d, elem := elemOf d, len := lenOf d, offs := offsOf P d, zero := zeroOf i }
  | _, _ => { has := false, sz := 0, bs := 0, kind := .other, elem := 0, len := 0, offs := [], zero := [] }

section
variable {P : Program} {t : TypeId}
theorem ti_has (h : (ti P t).has = true) : ∃ i d, P.info? t = some i ∧ P.underlying t = some d ∧ ti P t = { has := true, sz := i.size, bs := i.bytes, kind := kindOf d, elem := elemOf d, len := lenOf d, offs := offsOf P d, zero := zeroOf i } := by
  unfold ti at *
  cases h1 : P.info? t with
  | none => simp [h1] at h
  | some i =>
    cases h2 : P.underlying t with
    | none => simp [h1, h2] at h
    | some d => exact ⟨i, d, rfl, rfl, by simp⟩
theorem ti_kind (h : (ti P t).kind ≠ .other) : (ti P t).has = true := by
  unfold ti at *
  split
  · rfl
  · rename_i hn; split at h
    · rename_i i d h1 h2; exact absurd h2 (hn i d h1)
    · exact absurd rfl h
theorem ti_slice (h : (ti P t).kind = .slice) : P.underlying t = some (.slice (ti P t).elem) := by
  obtain ⟨i, d, h1, h2, h3⟩ := ti_has (P := P) (t := t) (ti_kind (by rw [h]; simp))
  rw [h3] at h ⊢; rw [h2]
  cases d <;> simp_all [kindOf, elemOf]
theorem ti_arr (h : (ti P t).kind = .arr) : P.underlying t = some (.array (ti P t).len (ti P t).elem) := by
  obtain ⟨i, d, h1, h2, h3⟩ := ti_has (P := P) (t := t) (ti_kind (by rw [h]; simp))
  rw [h3] at h ⊢; rw [h2]
  cases d <;> simp_all [kindOf, elemOf, Av.lenOf]
theorem ti_struct (h : (ti P t).kind = .struct) : ∃ fs, P.underlying t = some (.struct fs) ∧ (ti P t).offs = fs.toList.map fun f => (f.offset, P.cellsOf f.type) := by
  obtain ⟨i, d, h1, h2, h3⟩ := ti_has (P := P) (t := t) (ti_kind (by rw [h]; simp))
  rw [h3] at h ⊢; rw [h2]
  cases d <;> simp_all [kindOf, offsOf]
theorem ti_str (h : (ti P t).kind = .str) : P.underlying t = some .string := by
  obtain ⟨i, d, h1, h2, h3⟩ := ti_has (P := P) (t := t) (ti_kind (by rw [h]; simp))
  rw [h3] at h; rw [h2]
  cases d <;> simp_all [kindOf]
theorem ti_int {k : IntKind} (h : (ti P t).kind = .int k) : P.underlying t = some (.int k) := by
  obtain ⟨i, d, h1, h2, h3⟩ := ti_has (P := P) (t := t) (ti_kind (by rw [h]; simp))
  rw [h3] at h; rw [h2]
  cases d <;> simp_all [kindOf]
theorem run_size (w : World) (h : (ti P t).has = true) : (sizeOf t).run P w = .ok (ti P t).sz w := by
  obtain ⟨i, d, h1, h2, h3⟩ := ti_has h
  simp [sizeOf, typeInfo, h1, h3]
end

def isAg : TK → Bool
  | .struct | .arr => true
  | _ => false

theorem run_ag {P : Program} {t : TypeId} (w : World) (h : (ti P t).has = true) : (isAgg t).run P w = .ok (isAg (ti P t).kind) w := by
  obtain ⟨i, d, h1, h2, h3⟩ := ti_has h
  rw [h3]
  cases d <;> simp [isAgg, run_underlying h2, kindOf, isAg]

/-! ### Operands -/

def constD : Value → D
  | .agg cs => .agg (cs.toList.map ofVal)
  | v => ofVal v

abbrev Fr := Nat → D

def opd (fr : Fr) : Operand → D
  | .tmp t => fr t
  | .const v => constD v
  | .global _ => .junk
  | .func f => .fn f []

def un : D → D
  | .when _ d => un d
  | d => d
def vc : D → Bool
  | .when c d => c && vc d
  | _ => true

section
variable {w : World} {ow : Nat → Nat → Prop} {σ : Sg} {h : Hp}

theorem rep_ofVal (v : Value) : Rep w ow σ h (ofVal v) v := by
  cases v with
  | int k n => exact .int k n
  | bool b => exact .bool b
  | string s =>
    simp only [ofVal]
    split
    · rename_i hl; exact .str _ hl
    · exact .junk _
  | slice a n c =>
    cases a with
    | some a => exact .junk _
    | none =>
      cases n with
      | succ n => exact .junk _
      | zero =>
        cases c with
        | succ c => exact .junk _
        | zero => exact .slice [] .full none 0 (fun _ => undef) (by simp [lenMax]) (by simp) rfl (fun r sz e => nomatch e) (fun k hk => absurd hk (by simp [flat])) (fun k hk => absurd hk (by simp [flat]))
  | pointer a =>
    cases a with
    | none => exact .nilptr
    | some a => exact .junk _
  | nilFunc => exact .nilfn
  | nilIface => exact .nilif
  | _ => exact .junk _

theorem rep_constD (v : Value) : Rep w ow σ h (constD v) v := by
  cases v with
  | agg cs =>
    have := Rep.agg (w := w) (ow := ow) (σ := σ) (h := h) (cs.toList.map ofVal) cs.toList (by simp) (fun k h1 h2 => by
      simp only [List.getElem_map]
      exact rep_ofVal _)
    simpa [constD] using this
  | _ => simp only [constD]; exact rep_ofVal _

theorem rep_opd {fr : Fr} {a : Act} (hf : ∀ t, Rep w ow σ h (fr t) (a.tmps.getD t undef)) (x : Operand) : Rep w ow σ h (opd fr x) (a.eval x) := by
  cases x with
  | tmp t => exact hf t
  | const v => exact rep_constD v
  | global g => exact .junk _
  | func f => exact .fn f [] [] rfl (fun k h1 => absurd h1 (by simp))

theorem Rep.un {d : D} {v : Value} (H : Rep w ow σ h d v) : vc d = true → Rep w ow σ h (un d) v := by
  induction H with
  | off d => simp [vc]
  | on d v hr ih => simpa [vc, Av.un] using ih
  | slice es t a cap vs hlen hcap hfull htok hc hr ih => exact fun _ => .slice es t a cap vs hlen hcap hfull htok hc hr
  | vec r ag sz off len cp a cap hlen hcap hr hb hv => exact fun _ => .vec r ag sz off len cp a cap hlen hcap hr hb hv
  | agg cs vs hl hr ih => exact fun _ => .agg cs vs hl hr
  | tup cs vs hl hr ih => exact fun _ => .tup cs vs hl hr
  | ptr r off b hr hb hs => exact fun _ => .ptr r off b hr hb hs
  | vptr cs b o vs hc hr ih => exact fun _ => .vptr cs b o vs hc hr
  | fn f cs vs hl hr ih => exact fun _ => .fn f cs vs hl hr
  | iface t d v hr ih => exact fun _ => .iface t d v hr
  | int k n => exact fun _ => .int k n
  | bool b => exact fun _ => .bool b
  | str s hl => exact fun _ => .str s hl
  | nilptr => exact fun _ => .nilptr
  | nilfn => exact fun _ => .nilfn
  | nilif => exact fun _ => .nilif
  | junk v => exact fun _ => .junk v
end

/-! ### Cells in memory -/

def ob (h : Hp) (r : Nat) : Ob := h.getD r .dead
def rowOf : Ob → List D
  | .row cs => cs
  | _ => []
def isRow : Ob → Prop
  | .row _ => True
  | _ => False

theorem ob_row {h : Hp} {r : Nat} (hr : isRow (ob h r)) : h[r]? = some (.row (rowOf (ob h r))) := by
  unfold ob at *
  rw [List.getD_eq_getElem?_getD] at *
  cases hh : h[r]? with
  | none => simp [hh, isRow] at hr
  | some x => cases x <;> simp_all [isRow, rowOf]

def loadD (P : Program) (t : TypeId) (h : Hp) : D → D
  | .ptr r off => if isAg (ti P t).kind then .agg (((rowOf (ob h r)).drop off).take (ti P t).sz) else ((rowOf (ob h r)).drop off).headD .junk
  | .vptr cs => if isAg (ti P t).kind then .agg (cs.take (ti P t).sz) else cs.headD .junk
  | _ => .junk
def loadOk (P : Program) (t : TypeId) (h : Hp) (d : D) : Prop :=
  (ti P t).has = true ∧ (isAg (ti P t).kind = false → (ti P t).sz = 1) ∧
  match d with
  | .ptr r off => isRow (ob h r) ∧ off + (ti P t).sz ≤ (rowOf (ob h r)).length ∧ 0 < (ti P t).sz
  | .vptr cs => (ti P t).sz ≤ cs.length
  | _ => False

theorem add_mk (b o n : Nat) : (⟨b, o, none⟩ : Addr).add n = ⟨b, o + n, none⟩ := by
  unfold Addr.add
  split
  · subst_vars; rfl
  · rfl

theorem cell_mk {w : World} {b : Nat} {c : Array Value} {e : TypeId} {fz : Nat × Nat} (hb : w.heap[b]? = some (.cells c e fz)) (o : Nat) : w.cell? ⟨b, o, none⟩ = c[o]? := by
  simp [World.cell?, hb]

/-- Cells that stand one behind the other and read as cs. -/
theorem run_load_cells {P : Program} {w : World} {ow : Nat → Nat → Prop} {σ : Sg} {h : Hp} {t : TypeId} {b o : Nat} {cs : List D} {vs : Nat → Value}
    (hh : (ti P t).has = true) (h1 : isAg (ti P t).kind = false → (ti P t).sz = 1) (hl : (ti P t).sz ≤ cs.length)
    (hc : ∀ k, k < (ti P t).sz → w.cell? ⟨b, o + k, none⟩ = some (vs k)) (hr : ∀ k (hk : k < cs.length), k < (ti P t).sz → Rep w ow σ h (cs[k]) (vs k)) :
    ∃ v, (Instr.loadAt t (.pointer (some ⟨b, o, none⟩))).run P w = .ok v w ∧ Rep w ow σ h (if isAg (ti P t).kind then .agg (cs.take (ti P t).sz) else cs.headD .junk) v := by
  cases hag : isAg (ti P t).kind with
  | true =>
    have hrun := run_loadCells (P := P) w ⟨b, o, none⟩ (ti P t).sz vs (fun j hj => by rw [add_mk]; exact hc j hj)
    refine ⟨.agg ((List.range (ti P t).sz).map vs).toArray, by simp [Instr.loadAt, Instr.sureAddr, loadVar, run_ag w hh, hag, run_size w hh, hrun], ?_⟩
    simp only [if_true]
    refine .agg _ _ (by simp; omega) (fun k k1 k2 => ?_)
    simp only [List.length_take] at k1
    simp only [List.getElem_take, List.getElem_map, List.getElem_range]
    exact hr k (by omega) (by omega)
  | false =>
    have hs := h1 hag
    have h0 := hc 0 (by omega)
    refine ⟨vs 0, by simp [Instr.loadAt, Instr.sureAddr, loadVar, run_ag w hh, hag]; simpa using by rw [show w.cell? ⟨b, o, none⟩ = some (vs 0) by simpa using h0], ?_⟩
    cases cs with
    | nil => simp at hl; omega
    | cons c cs => exact hr 0 (by simp) (by omega)

theorem load_sound [Start] {P : Program} {w : World} {σ : Sg} {h : Hp} (hi : Inv w σ h) {t : TypeId} {d : D} {v : Value} (hd : Rep w (own σ h) σ h d v) (hok : loadOk P t h d) :
    ∃ u, (Instr.loadAt t v).run P w = .ok u w ∧ Rep w (own σ h) σ h (loadD P t h d) u := by
  obtain ⟨h1, h2, h3⟩ := hok
  cases hd with
  | ptr r off b hr hb hs =>
    obtain ⟨g1, g2, g3⟩ := h3
    have hrow := ob_row g1
    rcases (hi.live r _ hrow).cells with ⟨q, _⟩ | ⟨b', c, e, fz, q1, q2, q3, q4, q5⟩
    · rw [q] at g2; simp at g2; omega
    · obtain rfl : b' = b := by rw [hs] at q1; simpa using q1.symm
      have key : ∀ k, k < (ti P t).sz → ∃ u, w.cell? ⟨b', off + k, none⟩ = some u ∧ ∀ (hk : off + k < (rowOf (ob h r)).length), Rep w (own σ h) σ h ((rowOf (ob h r))[off + k]) u := by
        intro k hk
        obtain ⟨u, u1, u2⟩ := q5 (off + k) (by omega)
        exact ⟨u, by rw [cell_mk q2]; exact u1, fun _ => u2⟩
      have hvs : ∃ vs : Nat → Value, ∀ k, k < (ti P t).sz → w.cell? ⟨b', off + k, none⟩ = some (vs k) ∧ ∀ (hk : off + k < (rowOf (ob h r)).length), Rep w (own σ h) σ h ((rowOf (ob h r))[off + k]) (vs k) :=
        ⟨fun k => if hk : k < (ti P t).sz then (key k hk).choose else undef, fun k hk => by simp only [hk, dif_pos]; exact (key k hk).choose_spec⟩
      obtain ⟨vs, hvs⟩ := hvs
      have := run_load_cells (P := P) (w := w) (ow := own σ h) (σ := σ) (h := h) (t := t) (b := b') (o := off) (cs := (rowOf (ob h r)).drop off) (vs := vs) h1 h2 (by simp; omega) (fun k hk => (hvs k hk).1)
        (fun k hk hk' => by simp only [List.getElem_drop]; exact (hvs k hk').2 _)
      simpa [loadD] using this
  | vptr cs b o vs hc hr =>
    have := run_load_cells (P := P) (w := w) (ow := own σ h) (σ := σ) (h := h) (t := t) (b := b) (o := o) (cs := cs) (vs := vs) h1 h2 h3 (fun k hk => (hc k (by simp only [] at h3; omega)).2)
      (fun k hk _ => (hr k hk).mono ⟨fun _ _ _ _ q => q, fun _ _ _ q => q, fun _ c _ _ q => ⟨c, q, rfl⟩⟩ ⟨Nat.zero_le _, fun r hr => absurd hr (by simp), fun r n hr => absurd hr (by simp)⟩)
    simpa [loadD] using this
  | _ => exact absurd h3 (by simp)
end Go.Av

/- More operations that only read. -/
namespace Go.Av
set_option linter.unusedSectionVars false

theorem flat_cons (e : D) (es : List D) : flat (e :: es) = e.cells ++ flat es := by simp [flat]
theorem flat_nil : flat [] = [] := rfl
theorem flat_append (a b : List D) : flat (a ++ b) = flat a ++ flat b := by simp [flat]

def AllSz (n : Nat) (es : List D) : Prop := ∀ e, e ∈ es → e.cells.length = n

theorem flat_length {n : Nat} {es : List D} (h : AllSz n es) : (flat es).length = es.length * n := by
  induction es with
  | nil => simp [flat]
  | cons e es ih =>
    rw [flat_cons, List.length_append, h e (by simp), ih (fun x hx => h x (by simp [hx]))]
    simp [Nat.succ_mul, Nat.add_comm]

theorem flat_take {n : Nat} {es : List D} (h : AllSz n es) (k : Nat) : flat (es.take k) = (flat es).take (k * n) := by
  induction es generalizing k with
  | nil => simp [flat]
  | cons e es ih =>
    cases k with
    | zero => simp [flat]
    | succ k =>
      have he := h e (by simp)
      rw [List.take_succ_cons, flat_cons, flat_cons, ih (fun x hx => h x (by simp [hx])), List.take_append, he]
      rw [show (k + 1) * n - n = k * n by rw [Nat.succ_mul]; omega, List.take_of_length_le (l := e.cells) (by rw [he, Nat.succ_mul]; omega)]

theorem flat_drop {n : Nat} {es : List D} (h : AllSz n es) (k : Nat) : flat (es.drop k) = (flat es).drop (k * n) := by
  induction es generalizing k with
  | nil => simp [flat]
  | cons e es ih =>
    cases k with
    | zero => simp
    | succ k =>
      have he := h e (by simp)
      rw [List.drop_succ_cons, flat_cons, ih (fun x hx => h x (by simp [hx])), List.drop_append, he]
      rw [show (k + 1) * n - n = k * n by rw [Nat.succ_mul]; omega, List.drop_of_length_le (l := e.cells) (by rw [he, Nat.succ_mul]; omega), List.nil_append]

theorem allSz_take {n : Nat} {es : List D} (h : AllSz n es) (k : Nat) : AllSz n (es.take k) := fun e he => h e (List.mem_of_mem_take he)
theorem allSz_drop {n : Nat} {es : List D} (h : AllSz n es) (k : Nat) : AllSz n (es.drop k) := fun e he => h e (List.mem_of_mem_drop he)

theorem flat_get {n : Nat} {es : List D} (h : AllSz n es) {i k : Nat} (hi : i < es.length) (hk : k < n) :
    ∃ hb : i * n + k < (flat es).length, ∃ hc : k < (es[i]).cells.length, (flat es)[i * n + k] = (es[i]).cells[k] := by
  have hl := flat_length h
  have hb : i * n + k < (flat es).length := by
    rw [hl]
    calc i * n + k < i * n + n := by omega
      _ = (i + 1) * n := by rw [Nat.succ_mul]
      _ ≤ es.length * n := Nat.mul_le_mul_right n hi
  have hc : k < (es[i]).cells.length := by rw [h _ (List.getElem_mem _)]; exact hk
  refine ⟨hb, hc, ?_⟩
  have h1 : (flat es).drop (i * n) = (es[i]).cells ++ flat (es.drop (i + 1)) := by
    rw [← flat_drop h, List.drop_eq_getElem_cons hi, flat_cons]
  have h2 : ((flat es).drop (i * n))[k]? = some ((es[i]).cells[k]) := by
    rw [h1, List.getElem?_append_left hc, List.getElem?_eq_getElem hc]
  rw [List.getElem?_drop, List.getElem?_eq_getElem hb] at h2
  exact Option.some.inj h2

/-! ### Addresses -/

def offAt (P : Program) (s : TypeId) (f : Nat) : Nat × Nat := (ti P s).offs.getD f (0, 0)
def fieldD (P : Program) (s : TypeId) (f : Nat) : D → D
  | .ptr r off => .ptr r (off + (offAt P s f).1)
  | .vptr cs => .vptr (cs.drop (offAt P s f).1)
  | _ => .junk
def isPtr : D → Prop
  | .ptr _ _ | .vptr _ => True
  | _ => False
def isStruct : TK → Prop
  | .struct => True
  | _ => False
def fieldOk (P : Program) (s : TypeId) (f : Nat) (d : D) : Prop := isStruct (ti P s).kind ∧ (offAt P s f).2 ≠ 0 ∧ isPtr d

theorem struct_of {k : TK} (h : isStruct k) : k = .struct := by cases k <;> simp_all [isStruct]

section
variable {P : Program} {w : World} {σ : Sg} {h : Hp}

theorem rep_vptr_drop {ow : Nat → Nat → Prop} {cs : List D} {b o : Nat} (H : Rep w ow σ h (.vptr cs) (.pointer (some ⟨b, o, none⟩))) (n : Nat) : Rep w ow σ h (.vptr (cs.drop n)) (.pointer (some ⟨b, o + n, none⟩)) := by
  cases H with
  | vptr _ _ _ vs hc hr =>
    refine .vptr _ b (o + n) (fun k => vs (n + k)) (fun k hk => ?_) (fun k hk => ?_)
    · simp only [List.length_drop] at hk
      have := hc (n + k) (by omega)
      rw [show o + (n + k) = o + n + k by omega] at this
      exact this
    · simp only [List.getElem_drop]
      exact hr (n + k) _

theorem field_sound {s : TypeId} {f : Nat} {d : D} {v : Value} (hd : Rep w (own σ h) σ h d v) (hok : fieldOk P s f d) :
    ∃ u, (Instr.fieldAt s v f).run P w = .ok u w ∧ Rep w (own σ h) σ h (fieldD P s f d) u := by
  obtain ⟨h1, h2, h3⟩ := hok
  obtain ⟨fs, hu, ho⟩ := ti_struct (P := P) (t := s) (struct_of h1)
  have hlt : f < fs.size := by
    apply Decidable.byContradiction
    intro hn
    apply h2
    simp only [offAt]
    rw [ho, List.getD_eq_getElem?_getD, List.getElem?_eq_none (by simp; omega)]
    rfl
  have hoff : offAt P s f = ((fs[f]).offset, P.cellsOf (fs[f]).type) := by
    simp only [offAt]
    rw [ho, List.getD_eq_getElem?_getD, List.getElem?_map]
    simp [hlt]
  rw [hoff] at h2
  have hsz : (sizeOf (fs[f]).type).run P w = .ok (P.cellsOf (fs[f]).type) w := by
    simp only [Program.cellsOf] at h2
    cases hi : P.info? (fs[f]).type with
    | none => simp [hi] at h2
    | some i => simp [sizeOf, typeInfo, hi, Program.cellsOf]
  have hf : fs[f]? = some (fs[f]) := by simp [hlt]
  cases hd with
  | ptr r off b hr hb hs =>
    refine ⟨.pointer (some ⟨b, off + (fs[f]).offset, none⟩), ?_, ?_⟩
    · simp [Instr.fieldAt, run_underlying hu, hf, Instr.sureAddr, fieldPlace, hsz, h2, add_mk]
    · simp only [fieldD, hoff]; exact .ptr r _ b hr hb hs
  | vptr cs b o vs hc hr =>
    refine ⟨.pointer (some ⟨b, o + (fs[f]).offset, none⟩), ?_, ?_⟩
    · simp [Instr.fieldAt, run_underlying hu, hf, Instr.sureAddr, fieldPlace, hsz, h2, add_mk]
    · simp only [fieldD, hoff]; exact rep_vptr_drop (.vptr cs b o vs hc hr) _
  | _ => exact absurd h3 (by simp [isPtr])
end

/-! ### An element's address -/

def iof : D → Int
  | .int _ n => n
  | _ => 0
def isInt : D → Prop
  | .int _ _ => True
  | _ => False
def zeroD (P : Program) (t : TypeId) : D := if isAg (ti P t).kind then .agg (ti P t).zero else (ti P t).zero.headD .junk
def isSliceK : TK → Prop
  | .slice => True
  | _ => False
def isArrK : TK → Prop
  | .arr => True
  | _ => False
theorem slice_of {k : TK} (h : isSliceK k) : k = .slice := by cases k <;> simp_all [isSliceK]
theorem arr_of {k : TK} (h : isArrK k) : k = .arr := by cases k <;> simp_all [isArrK]

def idxD (P : Program) (t : TypeId) (x i : D) : D :=
  match x with
  | .slice es _ => .vptr (es.getD (iof i).toNat (zeroD P (ti P t).elem)).cells
  | .vec r _ sz off _ _ => .ptr r ((off + (iof i).toNat) * sz)
  | .ptr r off => .ptr r (off + (iof i).toNat * (ti P (ti P t).elem).sz)
  | .vptr cs => .vptr (cs.drop ((iof i).toNat * (ti P (ti P t).elem).sz))
  | _ => .junk
def idxOk (P : Program) (t : TypeId) (x i : D) : Prop :=
  isInt i ∧ (ti P (ti P t).elem).has = true ∧ 0 < (ti P (ti P t).elem).sz ∧
  match x with
  | .slice es _ => isSliceK (ti P t).kind ∧ 0 ≤ iof i ∧ iof i < es.length ∧ AllSz (ti P (ti P t).elem).sz es
  | .vec _ _ sz _ len _ => isSliceK (ti P t).kind ∧ 0 ≤ iof i ∧ iof i < len ∧ (ti P (ti P t).elem).sz = sz
  | .ptr _ _ | .vptr _ => isArrK (ti P t).kind ∧ 0 ≤ iof i ∧ iof i < (ti P t).len
  | _ => False

section
variable {P : Program} {w : World} {σ : Sg} {h : Hp}

theorem run_idx_slice {t : TypeId} {a : Addr} {len cap : Nat} {k : IntKind} {i : Int} (hu : P.underlying t = some (.slice (ti P t).elem)) (hh : (ti P (ti P t).elem).has = true) (h0 : 0 ≤ i) (h1 : i < len) :
    (Instr.indexAt t (.slice (some a) len cap) (.int k i)).run P w = .ok (.pointer (some (a.add (i.toNat * (ti P (ti P t).elem).sz)))) w := by
  simp [Instr.indexAt, asIntOf, run_underlying hu, h0, h1, run_size w hh]

theorem idx_sound {t : TypeId} {x i : D} {vx vi : Value} (hx : Rep w (own σ h) σ h x vx) (hi : Rep w (own σ h) σ h i vi) (hok : idxOk P t x i) :
    ∃ u, (Instr.indexAt t vx vi).run P w = .ok u w ∧ Rep w (own σ h) σ h (idxD P t x i) u := by
  obtain ⟨g1, g2, gz, g3⟩ := hok
  cases hi with
  | int k n =>
    simp only [iof] at g3
    cases hx with
    | slice es tk a cap vs hlen hcap hfull htok hc hr =>
      obtain ⟨k1, k2, k3, k4⟩ := g3
      have hn : n.toNat < es.length := by omega
      have hu := ti_slice (P := P) (t := t) (slice_of k1)
      obtain ⟨hb, _, _⟩ := flat_get k4 hn (k := 0) gz
      obtain ⟨b, o, rfl, _, _⟩ := hc _ hb
      refine ⟨.pointer (some ⟨b, o + n.toNat * (ti P (ti P t).elem).sz, none⟩), by rw [run_idx_slice hu g2 k2 k3, add_mk], ?_⟩
      simp only [idxD, iof, List.getD_eq_getElem?_getD, List.getElem?_eq_getElem hn, Option.getD_some]
      refine .vptr _ b _ (fun j => vs (n.toNat * (ti P (ti P t).elem).sz + j)) (fun j hj => ?_) (fun j hj => ?_)
      · rw [k4 _ (List.getElem_mem _)] at hj
        obtain ⟨hb, _, _⟩ := flat_get k4 hn hj
        obtain ⟨b', o', e, q1, q2⟩ := hc _ hb
        cases e
        rw [Nat.add_assoc]
        exact ⟨q1, q2⟩
      · have hj' := hj
        rw [k4 _ (List.getElem_mem _)] at hj'
        obtain ⟨hb, _, he⟩ := flat_get k4 hn hj'
        rw [← he]
        exact hr _ hb
    | vec r ag sz off len cp a cap hlen hcap hr hb hv =>
      obtain ⟨k1, k2, k3, k4⟩ := g3
      have hu := ti_slice (P := P) (t := t) (slice_of k1)
      rcases hv with hv | ⟨b, c, e, fz, rfl, q2, q3, q4⟩
      · omega
      · refine ⟨.pointer (some ⟨b, off * sz + n.toNat * sz, none⟩), by rw [run_idx_slice hu g2 k2 k3, add_mk, k4], ?_⟩
        simp only [idxD, iof]
        rw [← Nat.add_mul]
        exact .ptr r _ b hr hb q2
    | ptr r off b hr hb hs =>
      obtain ⟨k1, k2, k3⟩ := g3
      have hu := ti_arr (P := P) (t := t) (arr_of k1)
      refine ⟨.pointer (some ⟨b, off + n.toNat * (ti P (ti P t).elem).sz, none⟩), ?_, .ptr r _ b hr hb hs⟩
      simp [Instr.indexAt, asIntOf, run_underlying hu, k2, k3, run_size w g2, Instr.sureAddr, add_mk]
    | vptr cs b o vs hc hr =>
      obtain ⟨k1, k2, k3⟩ := g3
      have hu := ti_arr (P := P) (t := t) (arr_of k1)
      refine ⟨.pointer (some ⟨b, o + n.toNat * (ti P (ti P t).elem).sz, none⟩), ?_, rep_vptr_drop (.vptr cs b o vs hc hr) _⟩
      simp [Instr.indexAt, asIntOf, run_underlying hu, k2, k3, run_size w g2, Instr.sureAddr, add_mk]
    | _ => exact absurd g3 (by simp)
  | _ => exact absurd g1 (by simp [isInt])
end
end Go.Av

/- Numbers, Bools, texts; slices of slices and texts; lengths. -/
namespace Go.Av
set_option linter.unusedSectionVars false

def bof : D → Bool
  | .bool b => b
  | _ => false
def isBool : D → Prop
  | .bool _ => True
  | _ => False
def kof : D → IntKind
  | .int k _ => k
  | _ => .i64
def sof : D → List UInt8
  | .str s => s
  | _ => []
def isStr : D → Prop
  | .str _ => True
  | _ => False

theorem isBool_of {d : D} (h : isBool d) : d = .bool (bof d) := by cases d <;> simp_all [isBool, bof]
theorem isInt_of {d : D} (h : isInt d) : d = .int (kof d) (iof d) := by cases d <;> simp_all [isInt, kof, iof]
theorem isStr_of {d : D} (h : isStr d) : d = .str (sof d) := by cases d <;> simp_all [isStr, sof]

/-- & | ^ &^ of two numbers -/
def bitI (op : BinOp) (k : IntKind) (a b : Int) : Int :=
  match op with
  | .and => k.wrap (BitVec.ofInt k.bits a &&& BitVec.ofInt k.bits b).toNat
  | .or => k.wrap (BitVec.ofInt k.bits a ||| BitVec.ofInt k.bits b).toNat
  | .xor => k.wrap (BitVec.ofInt k.bits a ^^^ BitVec.ofInt k.bits b).toNat
  | _ => k.wrap (BitVec.ofInt k.bits a &&& ~~~BitVec.ofInt k.bits b).toNat
def codeD : D → Nat
  | .int _ _ => 0
  | .str _ => 1
  | .bool _ => 2
  | _ => 9
def codeT (P : Program) (t : TypeId) : Nat :=
  match P.underlying t with
  | some (.int _) => 0
  | some .string => 1
  | some .bool => 2
  | _ => 7
def flatF (P : Program) : List Field → Nat → List Nat → Bool
  | [], _, [] => true
  | f :: fs, k, c :: cs => f.name != "_" && f.offset == k && codeT P f.type == c && flatF P fs (k + 1) cs
  | _, _, _ => false
def flatB (P : Program) (t : TypeId) (cs : List Nat) : Bool :=
  !P.stoodInHeld t && !P.eqGuardType P.depth t && match P.underlying t with
    | some (.struct fs) => flatF P fs.toList 0 cs
    | _ => false
def FlatT (P : Program) (t : TypeId) (cs : List Nat) : Prop := flatB P t cs = true
theorem flatMk {P : Program} {t : TypeId} {cs : List Nat} (h : flatB P t cs = true) : FlatT P t cs := h
def cellOk : D → D → Prop
  | .int k _, .int k' _ => k' = k
  | .str _, .str _ => True
  | .bool _, .bool _ => True
  | _, _ => False
def cellsOk : List D → List D → Prop
  | [], [] => True
  | x :: xs, y :: ys => cellOk x y ∧ cellsOk xs ys
  | _, _ => False
def cellEq : D → D → Bool
  | .int _ a, .int _ b => decide (a = b)
  | .str a, .str b => decide (a = b)
  | .bool a, .bool b => a == b
  | _, _ => false
def cellsEq : List D → List D → Bool
  | x :: xs, y :: ys => cellEq x y && cellsEq xs ys
  | _, _ => true
def csOf : D → List D
  | .agg cs => cs
  | _ => []
def isAggD : D → Prop
  | .agg _ => True
  | _ => False
def binD (op : BinOp) (x y : D) : D :=
  match x with
  | .int k a =>
    match op with
    | .add => .int k (k.wrap (a + iof y))
    | .sub => .int k (k.wrap (a - iof y))
    | .mul => .int k (k.wrap (a * iof y))
    | .quo => .int k (k.wrap (a.tdiv (iof y)))
    | .rem => .int k (a.tmod (iof y))
    | .eql => .bool (decide (a = iof y))
    | .neq => .bool (!decide (a = iof y))
    | .lss => .bool (decide (a < iof y))
    | .leq => .bool (decide (a ≤ iof y))
    | .gtr => .bool (decide (iof y < a))
    | .geq => .bool (decide (iof y ≤ a))
    | .and => .int k (bitI .and k a (iof y))
    | .or => .int k (bitI .or k a (iof y))
    | .xor => .int k (bitI .xor k a (iof y))
    | .andNot => .int k (bitI .andNot k a (iof y))
    | .shl => .int k (k.wrap (a * 2 ^ min (iof y).toNat k.bits))
    | .shr => .int k (a.fdiv (2 ^ min (iof y).toNat k.bits))
  | .str s =>
    match op with
    | .add => .str (s ++ sof y)
    | .eql => .bool (decide (s = sof y))
    | .neq => .bool (!decide (s = sof y))
    | .lss => .bool (Op.bytesLess s (sof y))
    | .leq => .bool (Op.bytesLess s (sof y) || decide (s = sof y))
    | .gtr => .bool (!(Op.bytesLess s (sof y) || decide (s = sof y)))
    | .geq => .bool (!Op.bytesLess s (sof y))
    | _ => .junk
  | .bool b =>
    match op with
    | .eql => .bool (b == bof y)
    | .neq => .bool (b != bof y)
    | _ => .junk
  | .agg cs =>
    match op with
    | .eql => .bool (cellsEq cs (csOf y))
    | .neq => .bool (!cellsEq cs (csOf y))
    | _ => .junk
  | .nilif =>
    match op with
    | .eql => .bool true
    | .neq => .bool false
    | _ => .junk
  | .iface _ _ =>
    match op with
    | .eql => .bool false
    | .neq => .bool true
    | _ => .junk
  | _ => .junk

def isBoolK : TK → Prop
  | .bool => True
  | _ => False

def isIfK : TK → Prop
  | .iface => True
  | _ => False
def isNilif : D → Prop
  | .nilif => True
  | _ => False
/-- a nil interface is compared with the literal nil alone -/
def nilG (y : Operand) : D → Prop
  | .nilif => match y with
    | .const _ => True
    | _ => False
  | _ => True
def binOk (P : Program) (op : BinOp) (t : TypeId) (x y : D) : Prop :=
  match x with
  | .int k _ => isInt y ∧
    match op with
    | .quo | .rem => kof y = k ∧ iof y ≠ 0
    | .add | .sub | .mul | .eql | .neq | .lss | .leq | .gtr | .geq | .and | .or | .xor | .andNot => kof y = k
    | .shl | .shr => 0 ≤ iof y
  | .str s => isStr y ∧
    match op with
    | .add => s.length + (sof y).length ≤ lenMax
    | .eql | .neq | .lss | .leq | .gtr | .geq => True
    | _ => False
  | .bool _ => isBool y ∧ isBoolK (ti P t).kind ∧
    match op with
    | .eql | .neq => True
    | _ => False
  | .agg cs => isAggD y ∧ FlatT P t (cs.map codeD) ∧ cellsOk cs (csOf y) ∧
    match op with
    | .eql | .neq => True
    | _ => False
  | .nilif | .iface _ _ => isNilif y ∧ isIfK (ti P t).kind ∧
    match op with
    | .eql | .neq => True
    | _ => False
  | _ => False

theorem beqd (s t : List UInt8) : (s == t) = decide (s = t) := by
  by_cases h : s = t <;> simp [h]
theorem bytes_beq (a b : List UInt8) : ((⟨a.toArray⟩ : ByteArray) == ⟨b.toArray⟩) = decide (a = b) := by
  show ByteArray.beq _ _ = _
  unfold ByteArray.beq
  simp [beqd]
section
variable {P : Program} {w : World} {ow : Nat → Nat → Prop} {σ : Sg} {h : Hp}
theorem run_part {t : TypeId} (ht : codeT P t < 3) {xs : Array Value} {k : Nat} {v : Value} (hv : xs[k]? = some v) : (part t xs k).run P w = .ok v w := by
  unfold codeT at ht
  split at ht <;> rename_i e <;> first | (simp [part, isAgg, run_underlying e, hv]; done) | omega
theorem run_cellEq {t : TypeId} {d : Nat} {x y : D} {vx vy : Value} (hx : Rep w ow σ h x vx) (hy : Rep w ow σ h y vy) (ht : codeT P t = codeD x) (hok : cellOk x y) :
    codeT P t < 3 ∧ (Op.equalIn (d + 1) t vx vy).run P w = .ok (cellEq x y) w := by
  rw [ht]
  cases hx with
  | int k a =>
    refine ⟨(by decide : (0 : Nat) < 3), ?_⟩
    cases hy with
    | int k' b =>
      cases (show k' = k from hok)
      unfold codeT at ht
      split at ht <;> rename_i e <;> first | (simp [Op.equalIn, run_underlying e, cellEq, BEq.beq]; done) | cases ht
    | _ => exact absurd hok (by simp [cellOk])
  | str a =>
    refine ⟨(by decide : (1 : Nat) < 3), ?_⟩
    cases hy with
    | str b =>
      unfold codeT at ht
      split at ht <;> rename_i e <;> first | (simp only [Op.equalIn, Sem.run_bind, run_underlying e, Result.andThen_ok, cellEq, Sem.run_pure, bytes_beq]; done) | cases ht
    | _ => exact absurd hok (by simp [cellOk])
  | bool a =>
    refine ⟨(by decide : (2 : Nat) < 3), ?_⟩
    cases hy with
    | bool b =>
      unfold codeT at ht
      split at ht <;> rename_i e <;> first | (simp [Op.equalIn, run_underlying e, cellEq]; done) | cases ht
    | _ => exact absurd hok (by simp [cellOk])
  | _ => exact absurd hok (by simp [cellOk])
theorem run_cellsEq {d : Nat} {xs ys : Array Value} : ∀ (fs : List Field) (k : Nat) (cs ds : List D), flatF P fs k (cs.map codeD) = true → cellsOk cs ds →
    (∀ i (hi : i < cs.length), ∃ v, xs[k + i]? = some v ∧ Rep w ow σ h (cs[i]) v) → (∀ i (hi : i < ds.length), ∃ v, ys[k + i]? = some v ∧ Rep w ow σ h (ds[i]) v) →
    (forIn fs (none, ()) fun f (__s : Option Bool × Unit) =>
      if f.name ≠ "_" then do
        let __do_lift ← part f.type xs f.offset
        let __do_lift_1 ← part f.type ys f.offset
        let __do_lift ← Op.equalIn (d + 1) f.type __do_lift __do_lift_1
        if (!__do_lift) = true then pure (ForInStep.done (some false, ()))
          else pure (ForInStep.yield (none, ()))
      else pure (ForInStep.yield (none, ())) : Sem (Option Bool × Unit)).run P w = .ok (if cellsEq cs ds then (none, ()) else (some false, ())) w
  | [], k, [], [], _, _, _, _ => by simp [cellsEq]
  | [], k, c :: cs, _, h, _, _, _ => by simp [flatF] at h
  | _ :: _, k, [], _, h, _, _, _ => by simp [flatF] at h
  | _, k, c :: cs, [], _, h, _, _ => by simp [cellsOk] at h
  | [], k, [], _ :: _, _, h, _, _ => by simp [cellsOk] at h
  | f :: fs, k, c :: cs, e :: ds, h, ho, hx, hy => by
    simp only [List.map_cons, flatF, Bool.and_eq_true, beq_iff_eq, bne_iff_ne, ne_eq] at h
    obtain ⟨⟨⟨h1, h2⟩, h3⟩, h4⟩ := h
    obtain ⟨vx, a1, a2⟩ := hx 0 (by simp)
    rw [List.getElem_cons_zero] at a2
    obtain ⟨vy, b1, b2⟩ := hy 0 (by simp)
    rw [List.getElem_cons_zero] at b2
    obtain ⟨c1, c2⟩ := run_cellEq (d := d) a2 b2 h3 ho.1
    have ih := run_cellsEq (d := d) (xs := xs) (ys := ys) fs (k + 1) cs ds h4 ho.2 (fun i hi => by
      have := hx (i + 1) (by simp; omega)
      rwa [← Nat.add_assoc, Nat.add_right_comm] at this) (fun i hi => by
      have := hy (i + 1) (by simp; omega)
      rwa [← Nat.add_assoc, Nat.add_right_comm] at this)
    have p1 := run_part (w := w) c1 a1
    have p2 := run_part (w := w) c1 b1
    simp only [Nat.add_zero] at p1 p2
    subst h2
    rw [List.forIn_cons]
    simp only [ne_eq, h1, not_false_eq_true, if_true, Sem.run_bind, p1, p2, c2, Result.andThen_ok]
    cases hc : cellEq c e with
    | false => simp [cellsEq, hc]
    | true =>
      simp only [cellsEq, hc, Bool.not_true, Bool.false_eq_true, if_false, Sem.run_pure, Result.andThen_ok, Bool.true_and]
      exact ih
theorem run_structEq (d : Nat) {t : TypeId} {fs : Array Field} (e : P.underlying t = some (.struct fs)) (f1 : P.stoodInHeld t = false) {xs ys : Array Value} {r : Bool}
    (key : (forIn fs.toList (none, ()) fun f (__s : Option Bool × Unit) =>
      if f.name ≠ "_" then do
        let __do_lift ← part f.type xs f.offset
        let __do_lift_1 ← part f.type ys f.offset
        let __do_lift ← Op.equalIn (d + 1) f.type __do_lift __do_lift_1
        if (!__do_lift) = true then pure (ForInStep.done (some false, ()))
          else pure (ForInStep.yield (none, ()))
      else pure (ForInStep.yield (none, ())) : Sem (Option Bool × Unit)).run P w = .ok (if r then (none, ()) else (some false, ())) w) :
    (Op.equalIn (d + 1 + 1) t (.agg xs) (.agg ys)).run P w = .ok r w := by
  rw [Op.equalIn]
  simp only [Sem.run_bind, run_underlying e, Result.andThen_ok]
  have hp : (program : Sem Program).run P w = .ok P w := rfl
  rw [hp]
  simp only [Result.andThen_ok, f1, Bool.false_eq_true, if_false, Sem.run_bind]
  rw [← Array.forIn_toList, key]
  cases r <;> rfl
theorem run_aggEq {op : BinOp} {t : TypeId} {ox oy : Operand} {cs ds : List D} {vs us : List Value} (hvl : vs.length = cs.length) (hul : us.length = ds.length)
    (hv : ∀ k (h1 : k < cs.length) (h2 : k < vs.length), Rep w ow σ h (cs[k]) (vs[k])) (hu : ∀ k (h1 : k < ds.length) (h2 : k < us.length), Rep w ow σ h (ds[k]) (us[k]))
    (hf : FlatT P t (cs.map codeD)) (hok : cellsOk cs ds) :
    (eqGuard op t ox oy (.agg vs.toArray) (.agg us.toArray)).run P w = .ok () w ∧ (Op.equal t (.agg vs.toArray) (.agg us.toArray)).run P w = .ok (cellsEq cs ds) w := by
  unfold FlatT flatB at hf
  simp only [Bool.and_eq_true, Bool.not_eq_true'] at hf
  obtain ⟨⟨f1, f2⟩, f3⟩ := hf
  refine ⟨?_, ?_⟩
  · unfold eqGuard
    cases op <;> simp [f2]
  · split at f3
    · rename_i fs e
      have key := run_cellsEq (P := P) (w := w) (ow := ow) (σ := σ) (h := h) (d := 9998) (xs := vs.toArray) (ys := us.toArray) fs.toList 0 cs ds f3 hok
        (fun i hi => ⟨vs[i]'(by omega), by simp [show i < vs.length by omega], hv i hi (by omega)⟩) (fun i hi => ⟨us[i]'(by omega), by simp [show i < us.length by omega], hu i hi (by omega)⟩)
      exact run_structEq 9998 e f1 key
    · cases f3
end

section
variable {P : Program} {w : World} {ow : Nat → Nat → Prop} {σ : Sg} {h : Hp}

theorem run_eq_bool (w : World) {d : Nat} {t : TypeId} {a b : Bool} (h : P.underlying t = some .bool) : (Op.equalIn (d + 1) t (.bool a) (.bool b)).run P w = .ok (a == b) w := by
  simp [Op.equalIn, run_underlying h]

theorem bin_sound {op : BinOp} {t : TypeId} {ox oy : Operand} {x y : D} {vx vy : Value} (hx : Rep w ow σ h x vx) (hy : Rep w ow σ h y vy) (hok : binOk P op t x y) (hng : nilG oy x) :
    ∃ u, (do eqGuard op t ox oy vx vy; binOp op t vx vy).run P w = .ok u w ∧ Rep w ow σ h (binD op x y) u := by
  cases hx with
  | int k a =>
    obtain ⟨h1, h3⟩ := hok
    cases hy with
    | int k' b =>
      have hsh : op = .shl ∨ op = .shr ∨ k' = k := by
        cases op <;> simp_all [kof]
      have hg : eqGuard op t ox oy (.int k a) (.int k' b) = pure () := by cases op <;> rfl
      rw [hg]
      rcases hsh with rfl | rfl | rfl
      · simp only [iof] at h3
        exact ⟨.int k (k.wrap (a * 2 ^ min b.toNat k.bits)), by simp [binOp, Op.shift, Int.not_lt.2 h3], .int _ _⟩
      · simp only [iof] at h3
        exact ⟨.int k (a.fdiv (2 ^ min b.toNat k.bits)), by simp [binOp, Op.shift, Int.not_lt.2 h3], .int _ _⟩
      cases op with
      | add => exact ⟨.int k' (k'.wrap (a + b)), by simp [binOp, Op.intArith], .int _ _⟩
      | sub => exact ⟨.int k' (k'.wrap (a - b)), by simp [binOp, Op.intArith], .int _ _⟩
      | mul => exact ⟨.int k' (k'.wrap (a * b)), by simp [binOp, Op.intArith], .int _ _⟩
      | quo => exact ⟨.int k' (k'.wrap (a.tdiv b)), by simp only [iof] at h3; simp [binOp, Op.intDiv, h3.2], .int _ _⟩
      | rem => exact ⟨.int k' (a.tmod b), by simp only [iof] at h3; simp [binOp, Op.intDiv, h3.2], .int _ _⟩
      | and => exact ⟨.int k' (bitI .and k' a b), by simp [binOp, Op.intBits, bitI], .int _ _⟩
      | or => exact ⟨.int k' (bitI .or k' a b), by simp [binOp, Op.intBits, bitI], .int _ _⟩
      | xor => exact ⟨.int k' (bitI .xor k' a b), by simp [binOp, Op.intBits, bitI], .int _ _⟩
      | andNot => exact ⟨.int k' (bitI .andNot k' a b), by simp [binOp, Op.intBits, bitI], .int _ _⟩
      | shl => simp only [iof] at h3; exact ⟨.int k' (k'.wrap (a * 2 ^ min b.toNat k'.bits)), by simp [binOp, Op.shift, Int.not_lt.2 h3], .int _ _⟩
      | shr => simp only [iof] at h3; exact ⟨.int k' (a.fdiv (2 ^ min b.toNat k'.bits)), by simp [binOp, Op.shift, Int.not_lt.2 h3], .int _ _⟩
      | eql => exact ⟨.bool (decide (a = b)), by simp [binOp, Op.intCmp, BEq.beq], .bool _⟩
      | neq => exact ⟨.bool (!decide (a = b)), by simp [binOp, Op.intCmp, bne, BEq.beq], .bool _⟩
      | lss => exact ⟨.bool (decide (a < b)), by simp [binOp, Op.intCmp], .bool _⟩
      | leq => exact ⟨.bool (decide (a ≤ b)), by simp [binOp, Op.intCmp], .bool _⟩
      | gtr => exact ⟨.bool (decide (b < a)), by simp [binOp, Op.intCmp], .bool _⟩
      | geq => exact ⟨.bool (decide (b ≤ a)), by simp [binOp, Op.intCmp], .bool _⟩
    | _ => exact absurd h1 (by simp [isInt])
  | str s hl =>
    obtain ⟨h1, h3⟩ := hok
    cases hy with
    | str s' hl' =>
      have hg : eqGuard op t ox oy (.string ⟨s.toArray⟩) (.string ⟨s'.toArray⟩) = pure () := by cases op <;> rfl
      rw [hg]
      cases op with
      | add =>
        simp only [sof] at h3
        refine ⟨.string ⟨(s ++ s').toArray⟩, ?_, .str _ (by simp only [sof, List.length_append] at h3 ⊢; exact h3)⟩
        simp only [lenMax] at h3
        simp [binOp, Op.stringOp, ByteArray.size, ByteArray.mk_append_mk, IntKind.max, IntKind.signed, IntKind.bits]
        omega
      | eql => exact ⟨.bool (decide (s = s')), by simp [binOp, Op.stringOp, beqd], .bool _⟩
      | neq => exact ⟨.bool (!decide (s = s')), by simp [binOp, Op.stringOp, beqd], .bool _⟩
      | lss => exact ⟨.bool (Op.bytesLess s s'), by simp [binOp, Op.stringOp], .bool _⟩
      | leq => exact ⟨.bool (Op.bytesLess s s' || decide (s = s')), by simp [binOp, Op.stringOp, beqd], .bool _⟩
      | gtr => exact ⟨.bool (!(Op.bytesLess s s' || decide (s = s'))), by simp [binOp, Op.stringOp, beqd], .bool _⟩
      | geq => exact ⟨.bool (!Op.bytesLess s s'), by simp [binOp, Op.stringOp], .bool _⟩
      | _ => exact absurd h3 (by simp)
    | _ => exact absurd h1 (by simp [isStr])
  | bool b =>
    obtain ⟨h1, h2, h3⟩ := hok
    cases hy with
    | bool b' =>
      have hk : (ti P t).kind = .bool := by revert h2; cases (ti P t).kind <;> simp [isBoolK]
      obtain ⟨i, d, e1, e2, e3⟩ := ti_has (P := P) (t := t) (ti_kind (by rw [hk]; simp))
      have hd : P.underlying t = some .bool := by
        rw [e3] at hk; rw [e2]; cases d <;> simp_all [kindOf]
      have hg : eqGuard op t ox oy (.bool b) (.bool b') = pure () := by cases op <;> rfl
      rw [hg]
      cases op with
      | eql => exact ⟨.bool (b == b'), by simp only [binOp]; simp [Op.equal, Op.maxDepth, run_eq_bool w hd], .bool _⟩
      | neq => exact ⟨.bool (b != b'), by simp only [binOp]; simp [Op.equal, Op.maxDepth, run_eq_bool w hd, bne], .bool _⟩
      | _ => exact absurd h3 (by simp)
    | _ => exact absurd h1 (by simp [isBool])
  | agg cs vs hl hr =>
    obtain ⟨h1, h2, h3, h4⟩ := hok
    cases hy with
    | agg ds us hl' hr' =>
      obtain ⟨k1, k2⟩ := run_aggEq (P := P) (w := w) (op := op) (t := t) (ox := ox) (oy := oy) hl hl' hr hr' h2 h3
      cases op with
      | eql => exact ⟨.bool (cellsEq cs ds), by rw [Sem.run_bind, k1]; simp only [Result.andThen_ok, binOp, Sem.run_bind, k2, Sem.run_pure], .bool _⟩
      | neq => exact ⟨.bool (!cellsEq cs ds), by rw [Sem.run_bind, k1]; simp only [Result.andThen_ok, binOp, Sem.run_bind, k2, Sem.run_pure], .bool _⟩
      | _ => exact absurd h4 (by simp)
    | _ => exact absurd h1 (by simp [isAggD])
  | nilif =>
    obtain ⟨h1, h2, h3⟩ := hok
    cases hy with
    | nilif =>
      obtain ⟨c, rfl⟩ : ∃ c, oy = .const c := by
        cases oy with
        | const c => exact ⟨c, rfl⟩
        | _ => exact absurd hng (by simp [nilG])
      have hk : (ti P t).kind = .iface := by revert h2; cases (ti P t).kind <;> simp [isIfK]
      obtain ⟨i, d, e1, e2, e3⟩ := ti_has (P := P) (t := t) (ti_kind (by rw [hk]; simp))
      obtain ⟨ms, hd⟩ : ∃ ms, P.underlying t = some (.interface ms) := by
        rw [e3] at hk; rw [e2]; cases d <;> simp_all [kindOf]
      have he : ∀ d : Nat, (Op.equalIn (d + 1) t .nilIface .nilIface).run P w = .ok true w := fun d => by simp [Op.equalIn, run_underlying hd]
      cases op with
      | eql => exact ⟨.bool true, by simp only [binOp]; simp [eqGuard, Op.equal, Op.maxDepth, he 9999], .bool _⟩
      | neq => exact ⟨.bool false, by simp only [binOp]; simp [eqGuard, Op.equal, Op.maxDepth, he 9999], .bool _⟩
      | _ => exact absurd h3 (by simp)
    | _ => exact absurd h1 (by simp [isNilif])
  | iface tp d v hr =>
    obtain ⟨h1, h2, h3⟩ := hok
    cases hy with
    | nilif =>
      have hk : (ti P t).kind = .iface := by revert h2; cases (ti P t).kind <;> simp [isIfK]
      obtain ⟨i, d, e1, e2, e3⟩ := ti_has (P := P) (t := t) (ti_kind (by rw [hk]; simp))
      obtain ⟨ms, hd⟩ : ∃ ms, P.underlying t = some (.interface ms) := by
        rw [e3] at hk; rw [e2]; cases d <;> simp_all [kindOf]
      have he : ∀ d : Nat, (Op.equalIn (d + 1) t (.iface tp v) .nilIface).run P w = .ok false w := fun d => by simp [Op.equalIn, run_underlying hd]
      cases op with
      | eql => exact ⟨.bool false, by simp only [binOp]; simp [eqGuard, Op.equal, Op.maxDepth, he 9999], .bool _⟩
      | neq => exact ⟨.bool true, by simp only [binOp]; simp [eqGuard, Op.equal, Op.maxDepth, he 9999], .bool _⟩
      | _ => exact absurd h3 (by simp)
    | _ => exact absurd h1 (by simp [isNilif])
  | _ => exact absurd hok (by simp [binOk])

def unD (op : UnOp) (x : D) : D :=
  match op, x with
  | .neg, .int k n => .int k (k.wrap (0 - n))
  | .not, .bool b => .bool !b
  | .xor, .int k n => .int k (bitI .xor k (if k.signed then -1 else k.max) n)
  | _, _ => .junk
def unOk (op : UnOp) (x : D) : Prop :=
  match op with
  | .neg => isInt x
  | .xor => isInt x
  | .not => isBool x
  | _ => False

theorem un_sound {op : UnOp} {x : D} {vx : Value} (hx : Rep w ow σ h x vx) (hok : unOk op x) :
    ∃ u, (Op.unary op vx).run P w = .ok u w ∧ Rep w ow σ h (unD op x) u := by
  cases op with
  | neg =>
    cases hx with
    | int k n => exact ⟨_, rfl, .int _ _⟩
    | _ => exact absurd hok (by simp [unOk, isInt])
  | not =>
    cases hx with
    | bool b => exact ⟨_, rfl, .bool _⟩
    | _ => exact absurd hok (by simp [unOk, isBool])
  | xor =>
    cases hx with
    | int k n => exact ⟨.int k (bitI .xor k (if k.signed then -1 else k.max) n), by simp [Op.unary, Op.intBits, bitI], .int _ _⟩
    | _ => exact absurd hok (by simp [unOk, isInt])
  | _ => exact absurd hok (by simp [unOk])

/-! ### Components -/

def extD (x : D) (i : Nat) : D :=
  match x with
  | .tup vs => vs.getD i .junk
  | _ => .junk
def extOk (x : D) (i : Nat) : Prop :=
  match x with
  | .tup vs => i < vs.length
  | _ => False
theorem ext_sound {i : Nat} {x : D} {vx : Value} (hx : Rep w ow σ h x vx) (hok : extOk x i) :
    ∃ u, (Instr.extract vx i).run P w = .ok u w ∧ Rep w ow σ h (extD x i) u := by
  cases hx with
  | tup cs vs hl hr =>
    simp only [extOk] at hok
    have h2 : i < vs.length := by omega
    refine ⟨vs[i], by simp [Instr.extract, h2], ?_⟩
    simp only [extD, List.getD_eq_getElem?_getD, List.getElem?_eq_getElem hok, Option.getD_some]
    exact hr i hok h2
  | _ => exact absurd hok (by simp [extOk])

/-- 's[i]' of a text -/
def indexD (x i : D) : D :=
  match x with
  | .str s => .int .u8 ((s.getD (iof i).toNat 0).toNat : Int)
  | .agg cs => cs.getD (iof i).toNat .junk
  | _ => .junk
def indexOk (P : Program) (t : TypeId) (x i : D) : Prop :=
  isInt i ∧
  match x with
  | .str s => (match (ti P t).kind with | .str => True | _ => False) ∧ 0 ≤ iof i ∧ iof i < s.length
  | .agg cs => isArrK (ti P t).kind ∧ (ti P (ti P t).elem).has = true ∧ (ti P (ti P t).elem).sz = 1 ∧ isAg (ti P (ti P t).elem).kind = false ∧ (ti P t).len = cs.length ∧ 0 ≤ iof i ∧ iof i < cs.length
  | _ => False
theorem index_sound {t : TypeId} {x i : D} {vx vi : Value} (hx : Rep w ow σ h x vx) (hi : Rep w ow σ h i vi) (hok : indexOk P t x i) :
    ∃ u, (Instr.index t vx vi).run P w = .ok u w ∧ Rep w ow σ h (indexD x i) u := by
  obtain ⟨h1, h2⟩ := hok
  cases hi with
  | int k n =>
    cases hx with
    | str s hl =>
      obtain ⟨g1, g2, g3⟩ := h2
      simp only [iof] at g2 g3
      have hk : (ti P t).kind = .str := by revert g1; cases (ti P t).kind <;> simp
      have hn : n.toNat < s.length := by omega
      refine ⟨.int .u8 ((s.getD n.toNat 0).toNat : Int), ?_, .int _ _⟩
      have hg : (ByteArray.mk s.toArray)[n.toNat]? = some (s[n.toNat]) := by
        rw [ByteArray.getElem?_lt' _ _ (by simpa [ByteArray.size] using hn)]
        rfl
      simp [Instr.index, asIntOf, run_underlying (ti_str hk), g2, hg, List.getD_eq_getElem?_getD, List.getElem?_eq_getElem hn]
    | agg cs vs hl hr =>
      obtain ⟨g1, g2, g3, g4, g5, g6, g7⟩ := h2
      simp only [iof] at g6 g7
      have hn : n.toNat < cs.length := by omega
      have hv : n.toNat < vs.length := by omega
      refine ⟨vs[n.toNat], ?_, ?_⟩
      · simp [Instr.index, asIntOf, run_underlying (ti_arr (arr_of g1)), g5, g6, g7, run_size w g2, g3, part, run_ag w g2, g4, hv]
      · simp only [indexD, iof, List.getD_eq_getElem?_getD, List.getElem?_eq_getElem hn, Option.getD_some]
        exact hr _ hn hv
    | _ => exact absurd h2 (by simp)
  | _ => exact absurd h1 (by simp [isInt])
end
end Go.Av

/- Slices of slices and texts; lengths; the least and the greatest; numbers of another kind; bytes as a text; structs. -/
namespace Go.Av
set_option linter.unusedSectionVars false

/-- The bounds of 'x[lo:hi:mx]' over something of length n. -/
def loOf : Option D → Nat
  | some d => (iof d).toNat
  | none => 0
def hiOf (n : Nat) : Option D → Nat
  | some d => (iof d).toNat
  | none => n
def bOk : Option D → Nat → Nat → Prop
  | some d, l, h => isInt d ∧ (l : Int) ≤ iof d ∧ iof d ≤ (h : Int)
  | none, _, _ => True
def bndOk (n cp : Nat) (lo hi mx : Option D) : Prop :=
  bOk mx 0 cp ∧ bOk hi 0 (hiOf cp mx) ∧ bOk lo 0 (hiOf n hi) ∧ (mx.isSome = true → hi.isSome = true)

def tokOf (n : Nat) (t : Tok) (lo hi mx : Option D) : Tok :=
  match mx, hi, lo with
  | some m, some h, _ => if iof m = iof h then .full else .no
  | none, none, none => t
  | none, none, some _ => (match t with | .full => .full | _ => .no)
  | none, some _, none => (match t with | .full => .cap n | _ => .no)
  | _, _, _ => .no

def sliceD (x : D) (lo hi mx : Option D) : D :=
  match x with
  | .str s => .str ((s.take (hiOf s.length hi)).drop (loOf lo))
  | .slice es t => .slice ((es.take (hiOf es.length hi)).drop (loOf lo)) (tokOf es.length t lo hi mx)
  | .vec r ag sz off len cp => .vec r ag sz (off + loOf lo) (hiOf len hi - loOf lo) (hiOf cp mx - loOf lo)
  | _ => .junk
def isStrK : TK → Prop
  | .str => True
  | _ => False
theorem str_of {k : TK} (h : isStrK k) : k = .str := by cases k <;> simp_all [isStrK]
def sliceOk (P : Program) (t : TypeId) (x : D) (lo hi mx : Option D) : Prop :=
  match x with
  | .str s => isStrK (ti P t).kind ∧ mx = none ∧ bndOk s.length s.length lo hi none
  | .slice es _ => isSliceK (ti P t).kind ∧ (ti P (ti P t).elem).has = true ∧ AllSz (ti P (ti P t).elem).sz es ∧ bndOk es.length es.length lo hi mx
  | .vec _ _ sz _ len cp => isSliceK (ti P t).kind ∧ (ti P (ti P t).elem).has = true ∧ (ti P (ti P t).elem).sz = sz ∧ bndOk len cp lo hi mx
  | _ => False

section
variable {P : Program} {w : World} {σ : Sg} {h : Hp}

theorem run_sliceBound' {d : D} {v : Value} {ow : Nat → Nat → Prop} {y : Nat} {code : BoundsCode} (hd : Rep w ow σ h d v) (h1 : isInt d) (h2 : 0 ≤ iof d) (h3 : iof d ≤ y) :
    (Instr.sliceBound v y code).run P w = .ok (iof d).toNat w := by
  cases hd with
  | int k n => simp only [iof] at *; simp [Instr.sliceBound, asIntOf, h2, h3]
  | _ => exact absurd h1 (by simp [isInt])

/-- What stands for an option of data. -/
def RepO (w : World) (ow : Nat → Nat → Prop) (σ : Sg) (h : Hp) : Option D → Option Value → Prop
  | some d, some v => Rep w ow σ h d v
  | none, none => True
  | _, _ => False

theorem run_sliceBounds' {ow : Nat → Nat → Prop} {lo hi mx : Option D} {vl vh vm : Option Value} (isSlice : Bool) {n cp cap : Nat} (hl : RepO w ow σ h lo vl) (hh : RepO w ow σ h hi vh) (hm : RepO w ow σ h mx vm)
    (hn : n ≤ cp) (hc : cp ≤ cap) (hok : bndOk n cp lo hi mx) :
    ∃ m, (Instr.sliceBounds isSlice n cap vl vh vm).run P w = .ok (loOf lo, hiOf n hi, m) w ∧ loOf lo ≤ hiOf n hi ∧ hiOf n hi ≤ cp ∧ hiOf n hi ≤ m ∧ m ≤ cap ∧ (mx.isSome = true → m = hiOf n mx) ∧ (mx = none → m = cap) := by
  obtain ⟨h1, h2, h3, h4⟩ := hok
  have ll : ∀ y : Nat, y = hiOf n hi → ∀ code, vl.isSome = true → ∀ v, vl = some v → (Instr.sliceBound v y code).run P w = .ok (loOf lo) w ∧ loOf lo ≤ y := by
    intro y hy code _ v hv
    subst hv hy
    cases lo with
    | none => simp [RepO] at hl
    | some d =>
      obtain ⟨a1, a2, a3⟩ := h3
      exact ⟨run_sliceBound' hl a1 (by simpa using a2) a3, by simp only [loOf]; omega⟩
  have l0 : vl = none → loOf lo = 0 := by
    intro hv
    subst hv
    cases lo with
    | none => rfl
    | some d => simp [RepO] at hl
  cases mx with
  | none =>
    cases vm with
    | some v => simp [RepO] at hm
    | none =>
      cases hi with
      | none =>
        cases vh with
        | some v => simp [RepO] at hh
        | none =>
          cases vl with
          | none => exact ⟨cap, by simp [Instr.sliceBounds, l0 rfl, hiOf], by simp [l0 rfl], by simpa [hiOf] using hn, by simp only [hiOf]; omega, by omega, by simp, by simp⟩
          | some v =>
            obtain ⟨e1, e2⟩ := ll n rfl .sliceB rfl v rfl
            exact ⟨cap, by simp [Instr.sliceBounds, e1, hiOf], by simpa [hiOf] using e2, by simpa [hiOf] using hn, by simp only [hiOf]; omega, by omega, by simp, by simp⟩
      | some d =>
        cases vh with
        | none => simp [RepO] at hh
        | some u =>
          obtain ⟨b1, b2, b3⟩ := h2
          simp only [hiOf] at b3
          have e : ∀ code, (Instr.sliceBound u cap code).run P w = .ok (iof d).toNat w := fun code => run_sliceBound' hh b1 (by simpa using b2) (by omega)
          cases vl with
          | none => exact ⟨cap, by simp [Instr.sliceBounds, l0 rfl, hiOf, e], by simp [l0 rfl], by simp only [hiOf]; omega, by simp only [hiOf]; omega, by omega, by simp, by simp⟩
          | some v =>
            obtain ⟨e1, e2⟩ := ll (iof d).toNat rfl .sliceB rfl v rfl
            exact ⟨cap, by simp [Instr.sliceBounds, e, e1, hiOf], by simpa [hiOf] using e2, by simp only [hiOf]; omega, by simp only [hiOf]; omega, by omega, by simp, by simp⟩
  | some m =>
    cases vm with
    | none => simp [RepO] at hm
    | some um =>
      obtain ⟨c1, c2, c3⟩ := h1
      have em : ∀ code, (Instr.sliceBound um cap code).run P w = .ok (iof m).toNat w := fun code => run_sliceBound' hm c1 (by simpa using c2) (by omega)
      cases hi with
      | none => simp at h4
      | some d =>
        cases vh with
        | none => simp [RepO] at hh
        | some u =>
          obtain ⟨b1, b2, b3⟩ := h2
          simp only [hiOf] at b3
          have e : ∀ code, (Instr.sliceBound u (iof m).toNat code).run P w = .ok (iof d).toNat w := fun code => run_sliceBound' hh b1 (by simpa using b2) (by omega)
          cases vl with
          | none => exact ⟨(iof m).toNat, by simp [Instr.sliceBounds, l0 rfl, hiOf, e, em], by simp [l0 rfl], by simp only [hiOf]; omega, by simp only [hiOf]; omega, by omega, by simp [hiOf], by simp⟩
          | some v =>
            obtain ⟨e1, e2⟩ := ll (iof d).toNat rfl .slice3C rfl v rfl
            exact ⟨(iof m).toNat, by simp [Instr.sliceBounds, e, em, e1, hiOf], by simpa [hiOf] using e2, by simp only [hiOf]; omega, by simp only [hiOf]; omega, by omega, by simp [hiOf], by simp⟩

theorem slice_sound {t : TypeId} {x : D} {lo hi mx : Option D} {vx : Value} {vl vh vm : Option Value} (hx : Rep w (own σ h) σ h x vx) (hl : RepO w (own σ h) σ h lo vl) (hh : RepO w (own σ h) σ h hi vh)
    (hm : RepO w (own σ h) σ h mx vm) (hok : sliceOk P t x lo hi mx) : ∃ u, (Instr.sliceAt t vx vl vh vm).run P w = .ok u w ∧ Rep w (own σ h) σ h (sliceD x lo hi mx) u := by
  cases hx with
  | str s hs =>
    obtain ⟨h1, rfl, h3⟩ := hok
    have hu := ti_str (P := P) (t := t) (str_of h1)
    cases vm with
    | some v => simp [RepO] at hm
    | none =>
      obtain ⟨m, e, g1, g2, g3, g4, _, _⟩ := run_sliceBounds' (P := P) false (cap := s.length) hl hh hm (Nat.le_refl _) (Nat.le_refl _) h3
      refine ⟨.string ⟨((s.take (hiOf s.length hi)).drop (loOf lo)).toArray⟩, ?_, .str _ (by simp; omega)⟩
      have hex : (ByteArray.mk s.toArray).extract (loOf lo) (hiOf s.length hi) = ByteArray.mk ((s.take (hiOf s.length hi)).drop (loOf lo)).toArray := by
        rw [ByteArray.extract_mk, List.drop_take]
      simp [Instr.sliceAt, Instr.slice, run_underlying hu, ByteArray.size_mk', e, hex]
  | slice es tk a cap vs hlen hcap hfull htok hc hr =>
    obtain ⟨h1, h2, h3, h4⟩ := hok
    have hu := ti_slice (P := P) (t := t) (slice_of h1)
    obtain ⟨m, e, g1, g2, g3, g4, g5, g6⟩ := run_sliceBounds' (P := P) true hl hh hm (Nat.le_refl _) hcap h4
    have hrun : (Instr.sliceAt t (.slice a es.length cap) vl vh vm).run P w = .ok (.slice (if m = loOf lo then a else a.map (·.add (loOf lo * (ti P (ti P t).elem).sz))) (hiOf es.length hi - loOf lo) (m - loOf lo)) w := by
      simp [Instr.sliceAt, Instr.slice, run_underlying hu, e, run_size w h2]
    refine ⟨_, hrun, ?_⟩
    have hlen' : ((es.take (hiOf es.length hi)).drop (loOf lo)).length = hiOf es.length hi - loOf lo := by simp; omega
    have hfl : flat ((es.take (hiOf es.length hi)).drop (loOf lo)) = ((flat es).take (hiOf es.length hi * (ti P (ti P t).elem).sz)).drop (loOf lo * (ti P (ti P t).elem).sz) := by
      rw [flat_drop (allSz_take h3 _), flat_take h3]
    simp only [sliceD]
    rw [← hlen']
    refine .slice _ _ _ _ (fun k => vs (loOf lo * (ti P (ti P t).elem).sz + k)) (by omega) (by omega) ?_ (fun r sz ht => ?_) (fun k hk => ?_) (fun k hk => ?_)
    · rw [hlen']
      simp only [tokOf]
      split
      · split
        · rename_i mm hh' _ heq
          have := g5 rfl
          simp only [hiOf] at this ⊢
          show m - _ = _
          omega
        · trivial
      · have e6 := g6 rfl
        subst e6
        simp only [loOf, hiOf, Nat.sub_zero]
        exact hfull
      · split
        · have e6 := g6 rfl
          have e7 : cap = es.length := hfull
          simp only [hiOf] at *
          show m - _ = _
          omega
        · trivial
      · split
        · have e6 := g6 rfl
          have e7 : cap = es.length := hfull
          simp only [loOf, Nat.sub_zero]
          show m = _
          omega
        · trivial
      · trivial
    · have : mx = none ∧ hi = none ∧ lo = none ∧ tk = .buf r sz := by
        revert ht
        simp only [tokOf]
        split
        · split <;> simp
        · intro ht; exact ⟨rfl, rfl, rfl, ht⟩
        · split <;> simp
        · split <;> simp
        · simp
      obtain ⟨rfl, rfl, rfl, rfl⟩ := this
      have := htok r sz rfl
      have hm' := g6 rfl
      subst hm'
      simp only [loOf, hiOf] at *
      simp only [List.take_length, List.drop_zero, Nat.zero_mul, Nat.sub_zero]
      split
      · exact this
      · cases a with
        | none => exact this
        | some a => simpa [Addr.add] using this
    · rw [hfl] at hk
      simp only [List.length_drop, List.length_take] at hk
      obtain ⟨b, o, rfl, q1, q2⟩ := hc (loOf lo * (ti P (ti P t).elem).sz + k) (by omega)
      have hne : m ≠ loOf lo := by
        intro he
        have : hiOf es.length hi = loOf lo := by omega
        rw [this] at hk
        omega
      refine ⟨b, o + loOf lo * (ti P (ti P t).elem).sz, by simp [hne, add_mk], ?_, ?_⟩
      · rw [Nat.add_assoc]; exact q1
      · rw [Nat.add_assoc]; exact q2
    · have hk' := hk
      rw [hfl] at hk'
      simp only [List.length_drop, List.length_take] at hk'
      have he : (flat ((es.take (hiOf es.length hi)).drop (loOf lo)))[k] = (flat es)[loOf lo * (ti P (ti P t).elem).sz + k]'(by omega) := by
        simp only [hfl, List.getElem_drop, List.getElem_take]
      rw [he]
      exact hr _ _
  | vec r ag sz off len cp a cap hlen hcap hr hb hv =>
    obtain ⟨h1, h2, h3, h4⟩ := hok
    have hu := ti_slice (P := P) (t := t) (slice_of h1)
    obtain ⟨m, e, g1, g2, g3, g4, g5, g6⟩ := run_sliceBounds' (P := P) true hl hh hm hcap.1 hcap.2 h4
    have hrun : (Instr.sliceAt t (.slice a len cap) vl vh vm).run P w = .ok (.slice (if m = loOf lo then a else a.map (·.add (loOf lo * sz))) (hiOf len hi - loOf lo) (m - loOf lo)) w := by
      simp [Instr.sliceAt, Instr.slice, run_underlying hu, e, run_size w h2, h3]
    refine ⟨_, hrun, ?_⟩
    simp only [sliceD]
    have hcp : hiOf cp mx ≤ m ∧ hiOf len hi ≤ hiOf cp mx := by
      cases mx with
      | none => exact ⟨by have := g6 rfl; simp only [hiOf]; omega, by simpa [hiOf] using g2⟩
      | some mm =>
        have := g5 rfl
        simp only [hiOf] at *
        omega
    have hcm : hiOf cp mx ≤ cp := by
      cases mx with
      | none => exact Nat.le_refl _
      | some mm => have := h4.1.2.2; simp only [hiOf]; omega
    refine .vec r ag sz _ _ _ _ _ (by omega) ⟨by have := hcp.2; omega, by have := hcp.1; omega⟩ hr hb ?_
    by_cases hm0 : m = loOf lo
    · exact .inl (by omega)
    · rcases hv with hv | ⟨b, c, el, fz, rfl, q2, q3, q4⟩
      · omega
      · refine .inr ⟨b, c, el, fz, by simp [hm0, add_mk, Nat.add_mul], q2, q3, ?_⟩
        refine Nat.le_trans (Nat.mul_le_mul_right sz ?_) q4
        omega
  | _ => exact absurd hok (by simp [sliceOk])

/-! ### Lengths, the least and the greatest -/

def lenD : D → D
  | .slice es _ => .int .i64 es.length
  | .vec _ _ _ _ len _ => .int .i64 len
  | .str s => .int .i64 s.length
  | _ => .junk
def lenOk (P : Program) (t : TypeId) : D → Prop
  | .slice _ _ | .vec _ _ _ _ _ _ => isSliceK (ti P t).kind
  | .str _ => isStrK (ti P t).kind
  | _ => False
theorem len_sound {ow : Nat → Nat → Prop} {t ty : TypeId} {x : D} {vx : Value} (hx : Rep w ow σ h x vx) (hok : lenOk P t x) :
    ∃ u, (Builtin.len_ #[t] ty #[vx]).run P w = .ok u w ∧ Rep w ow σ h (lenD x) u := by
  cases hx with
  | slice es tk a cap vs hlen hcap hfull htok hc hr =>
    exact ⟨.int .i64 es.length, by simp [Builtin.len_, run_underlying (ti_slice (slice_of hok)), goInt], .int _ _⟩
  | vec r ag sz off len cp a cap hlen hcap hr hb hv =>
    exact ⟨.int .i64 len, by simp [Builtin.len_, run_underlying (ti_slice (slice_of hok)), goInt], .int _ _⟩
  | str s hl =>
    exact ⟨.int .i64 s.length, by simp [Builtin.len_, run_underlying (ti_str (str_of hok)), goInt, ByteArray.size_mk'], .int _ _⟩
  | _ => exact absurd hok (by simp [lenOk])

/-- The capacity, where it is known. -/
def capD : D → D
  | .slice es _ => .int .i64 es.length
  | _ => .junk
def capOk (P : Program) (t : TypeId) : D → Prop
  | .slice _ .full => isSliceK (ti P t).kind
  | _ => False
theorem cap_sound {ow : Nat → Nat → Prop} {t ty : TypeId} {x : D} {vx : Value} (hx : Rep w ow σ h x vx) (hok : capOk P t x) :
    ∃ u, (Builtin.cap_ #[t] ty #[vx]).run P w = .ok u w ∧ Rep w ow σ h (capD x) u := by
  cases hx with
  | slice es tk a cap vs hlen hcap hfull htok hc hr =>
    cases tk with
    | full =>
      have : cap = es.length := hfull
      subst this
      exact ⟨.int .i64 es.length, by simp [Builtin.cap_, run_underlying (ti_slice (slice_of hok)), goInt], .int _ _⟩
    | _ => exact absurd hok (by simp [capOk])
  | _ => exact absurd hok (by simp [capOk])

def minD (x y : D) : D := .int (kof x) (if iof y < iof x then iof y else iof x)
def maxD (x y : D) : D := .int (kof x) (if iof x < iof y then iof y else iof x)
theorem min_sound {ow : Nat → Nat → Prop} {ts : Array TypeId} {ty : TypeId} {x y : D} {vx vy : Value} (hx : Rep w ow σ h x vx) (hy : Rep w ow σ h y vy) (h1 : isInt x) (h2 : isInt y) :
    ∃ u, (Builtin.min_ ts ty #[vx, vy]).run P w = .ok u w ∧ Rep w ow σ h (minD x y) u := by
  cases hx with
  | int k n =>
    cases hy with
    | int k' m => exact ⟨_, rfl, .int _ _⟩
    | _ => exact absurd h2 (by simp [isInt])
  | _ => exact absurd h1 (by simp [isInt])
theorem max_sound {ow : Nat → Nat → Prop} {ts : Array TypeId} {ty : TypeId} {x y : D} {vx vy : Value} (hx : Rep w ow σ h x vx) (hy : Rep w ow σ h y vy) (h1 : isInt x) (h2 : isInt y) :
    ∃ u, (Builtin.max_ ts ty #[vx, vy]).run P w = .ok u w ∧ Rep w ow σ h (maxD x y) u := by
  cases hx with
  | int k n =>
    cases hy with
    | int k' m => exact ⟨_, rfl, .int _ _⟩
    | _ => exact absurd h2 (by simp [isInt])
  | _ => exact absurd h1 (by simp [isInt])
end
end Go.Av

/- States of a run; the reading operations of a region, as functions on data; that the model's operations do just that. -/
namespace Go.Av
set_option linter.unusedSectionVars false

structure St where
  fr : Fr
  h : Hp

def put (fr : Fr) (t : Nat) (d : D) : Fr := fun u => if u = t then d else fr u
def putO (fr : Fr) : Option Tmp → D → Fr
  | some t, d => put fr t d
  | none, _ => fr

def vl (fr : Fr) (x : Operand) : D := un (opd fr x)
def ok1 (fr : Fr) (x : Operand) : Prop := vc (opd fr x) = true
def okO (fr : Fr) : Option Operand → Prop
  | some x => ok1 fr x
  | none => True

/-- struct literals -/
def splice (cs : List D) (off : Nat) (ds : List D) : List D := cs.take off ++ ds ++ cs.drop (off + ds.length)
def fillD (offs : List (Nat × Nat)) : List (Nat × D) → List D → List D
  | [], cs => cs
  | (i, d) :: r, cs => fillD offs r (splice cs (offs.getD i (0, 0)).1 d.cells)
def solid : D → Prop
  | .junk | .when _ _ => False
  | _ => True
def fillOk (offs : List (Nat × Nat)) (n : Nat) : List (Nat × D) → Prop
  | [] => True
  | (i, d) :: r => solid d ∧ i < offs.length ∧ d.cells.length = (offs.getD i (0, 0)).2 ∧ (offs.getD i (0, 0)).1 + d.cells.length ≤ n ∧ fillOk offs n r

def isIntK : TK → Prop
  | .int _ => True
  | _ => False
def kindInt : TK → IntKind
  | .int k => k
  | _ => .i64

def convD (P : Program) (dst : TypeId) (x : D) : D :=
  match x with
  | .int _ n => .int (kindInt (ti P dst).kind) ((kindInt (ti P dst).kind).wrap n)
  | .str s => .str s
  | _ => .junk
def convOk (P : Program) (src dst : TypeId) (x : D) : Prop :=
  (ti P src).has = true ∧
  match x with
  | .int _ _ => isIntK (ti P dst).kind
  | .str _ => isStrK (ti P dst).kind
  | _ => False

/-- bytes as a text -/
def isU8 : TK → Prop
  | .int .u8 => True
  | _ => False
def isByte : D → Prop
  | .int .u8 _ => True
  | _ => False
def byteOf (d : D) : UInt8 := UInt8.ofNat (iof d).toNat
def noVec : D → Prop
  | .vec _ _ _ _ _ _ => False
  | _ => True
def convH (P : Program) (h : Hp) (dst : TypeId) (x : D) : D :=
  match x with
  | .slice es _ => .str (es.map byteOf)
  | .vec r _ _ off len _ => .str ((((rowOf (ob h r)).drop off).take len).map byteOf)
  | x => convD P dst x
def convHOk (P : Program) (h : Hp) (src dst : TypeId) (x : D) : Prop :=
  match x with
  | .slice es _ => isSliceK (ti P src).kind ∧ isU8 (ti P (ti P src).elem).kind ∧ isStrK (ti P dst).kind ∧ ∀ d, d ∈ es → isByte d
  | .vec r _ sz off len _ => isSliceK (ti P src).kind ∧ isU8 (ti P (ti P src).elem).kind ∧ isStrK (ti P dst).kind ∧ sz = 1 ∧ isRow (ob h r) ∧ off + len ≤ (rowOf (ob h r)).length ∧ ∀ d, d ∈ ((rowOf (ob h r)).drop off).take len → isByte d
  | x => convOk P src dst x
def callArgs (fr : Fr) (args : Array Operand) : List D := args.toList.map (vl fr)

def builtinD (fr : Fr) (b : Builtin) (args : Array Operand) : D :=
  match b, args.toList with
  | .len, [x] => lenD (vl fr x)
  | .cap, [x] => capD (vl fr x)
  | .min, [x, y] => minD (vl fr x) (vl fr y)
  | .max, [x, y] => maxD (vl fr x) (vl fr y)
  | _, _ => .junk
def builtinOk (P : Program) (fr : Fr) (b : Builtin) (args : Array Operand) (ts : Array TypeId) : Prop :=
  match b, args.toList, ts.toList with
  | .len, [x], [t] => ok1 fr x ∧ lenOk P t (vl fr x)
  | .cap, [x], [t] => ok1 fr x ∧ capOk P t (vl fr x)
  | .min, [x, y], _ => ok1 fr x ∧ ok1 fr y ∧ isInt (vl fr x) ∧ isInt (vl fr y)
  | .max, [x, y], _ => ok1 fr x ∧ ok1 fr y ∧ isInt (vl fr x) ∧ isInt (vl fr y)
  | _, _, _ => False

def pureD (P : Program) (st : St) : Op → D
  | .move x | .assign x => opd st.fr x
  | .pick c a b => .bool (bif bof (vl st.fr c) then bof (vl st.fr a) else bof (vl st.fr b))
  | .load t x => loadD P t st.h (vl st.fr x)
  | .fieldAddr s x f => fieldD P s f (vl st.fr x)
  | .indexAddr t x i => idxD P t (vl st.fr x) (vl st.fr i)
  | .index _ x i => indexD (vl st.fr x) (vl st.fr i)
  | .binOp op _ x y _ => binD op (vl st.fr x) (vl st.fr y)
  | .unOp op _ x => unD op (vl st.fr x)
  | .extract x i => extD (vl st.fr x) i
  | .slice _ x lo hi mx => sliceD (vl st.fr x) (lo.map (vl st.fr)) (hi.map (vl st.fr)) (mx.map (vl st.fr))
  | .nilCheck x => vl st.fr x
  | .makeFunc (.func f) _ caps => .fn f (caps.toList.map (vl st.fr))
  | .build t parts => .agg (fillD (ti P t).offs (parts.toList.map fun p => (p.1, vl st.fr p.2)) (ti P t).zero)
  | .convert _ dst x => convH P st.h dst (vl st.fr x)
  | .call c => match c.callee with | .builtin b => builtinD st.fr b c.args | _ => .junk
  | _ => .junk

def isPtr' : D → Prop
  | .ptr _ _ | .vptr _ => True
  | _ => False

def allOk1 (fr : Fr) (l : List Operand) : Prop := ∀ x, x ∈ l → ok1 fr x

def pureOk (P : Program) (st : St) : Op → Prop
  | .move _ | .assign _ => True
  | .pick c a b => ok1 st.fr c ∧ isBool (vl st.fr c) ∧ (bof (vl st.fr c) = true → ok1 st.fr a ∧ isBool (vl st.fr a)) ∧ (bof (vl st.fr c) = false → ok1 st.fr b ∧ isBool (vl st.fr b))
  | .load t x => ok1 st.fr x ∧ loadOk P t st.h (vl st.fr x)
  | .fieldAddr s x f => ok1 st.fr x ∧ fieldOk P s f (vl st.fr x)
  | .indexAddr t x i => ok1 st.fr x ∧ ok1 st.fr i ∧ idxOk P t (vl st.fr x) (vl st.fr i)
  | .index t x i => ok1 st.fr x ∧ ok1 st.fr i ∧ indexOk P t (vl st.fr x) (vl st.fr i)
  | .binOp op t x y _ => ok1 st.fr x ∧ ok1 st.fr y ∧ binOk P op t (vl st.fr x) (vl st.fr y) ∧ nilG y (vl st.fr x)
  | .unOp op _ x => ok1 st.fr x ∧ unOk op (vl st.fr x)
  | .extract x i => ok1 st.fr x ∧ extOk (vl st.fr x) i
  | .slice t x lo hi mx => ok1 st.fr x ∧ okO st.fr lo ∧ okO st.fr hi ∧ okO st.fr mx ∧ sliceOk P t (vl st.fr x) (lo.map (vl st.fr)) (hi.map (vl st.fr)) (mx.map (vl st.fr))
  | .nilCheck x => ok1 st.fr x ∧ isPtr' (vl st.fr x)
  | .makeFunc fn first caps => first = #[] ∧ (match fn with | .func _ => True | _ => False) ∧ allOk1 st.fr caps.toList
  | .build t parts => isStruct (ti P t).kind ∧ (ti P t).zero.isEmpty = false ∧ ((ti P t).offs.all fun p => p.2 != 0) = true ∧ allOk1 st.fr (parts.toList.map (·.2)) ∧ fillOk (ti P t).offs (ti P t).zero.length (parts.toList.map fun p => (p.1, vl st.fr p.2))
  | .convert src dst x => ok1 st.fr x ∧ convHOk P st.h src dst (vl st.fr x)
  | .call c => match c.callee with | .builtin b => builtinOk P st.fr b c.args c.argTypes | _ => False
  | _ => False

section
variable {P : Program} {w : World} {σ : Sg} {st : St} {a : Act}

/-- The slots that an operation's operands name. -/
def looksTo (o : Op) (t : Tmp) : Prop := Operand.tmp t ∈ o.operands

theorem rep_opd' {ow : Nat → Nat → Prop} {h : Hp} {fr : Fr} {x : Operand} (hf : ∀ t, x = .tmp t → Rep w ow σ h (fr t) (a.tmps.getD t undef)) : Rep w ow σ h (opd fr x) (a.eval x) := by
  cases x with
  | tmp t => exact hf t rfl
  | const v => exact rep_constD v
  | global g => exact .junk _
  | func f => exact .fn f [] [] rfl (fun k h1 => absurd h1 (by simp))

theorem rep_vl {ow : Nat → Nat → Prop} {h : Hp} {fr : Fr} {x : Operand} (hf : ∀ t, x = .tmp t → Rep w ow σ h (fr t) (a.tmps.getD t undef)) (hk : ok1 fr x) : Rep w ow σ h (vl fr x) (a.eval x) := (rep_opd' hf).un hk

theorem size_splice {cs ds : List D} {off : Nat} (h : off + ds.length ≤ cs.length) : (splice cs off ds).length = cs.length := by
  simp [splice]; omega

/-- Filling cells by a list of values from a place on. -/
theorem foldl_fill {α : Type} (ds : List α) (off : Nat) : ∀ (i : Nat) (cs : Array α), off + i + ds.length ≤ cs.size →
    (ds.zipIdx i).foldl (fun cs (c, j) => cs.setIfInBounds (off + j) c) cs = (cs.toList.take (off + i) ++ ds ++ cs.toList.drop (off + i + ds.length)).toArray := by
  induction ds with
  | nil => intro i cs h; simp
  | cons d ds ih =>
    intro i cs h
    simp only [List.length_cons] at h
    rw [List.zipIdx_cons, List.foldl_cons, ih (i + 1) _ (by simp; omega)]
    congr 1
    simp only [Array.toList_setIfInBounds, List.length_cons]
    apply List.ext_getElem?
    intro k
    simp only [List.getElem?_append, List.length_take, List.length_set, List.getElem?_take, List.getElem?_drop, Array.length_toList, List.getElem?_set, List.length_append, List.length_cons, List.getElem?_cons]
    have hsz : cs.toList.length = cs.size := Array.length_toList
    (repeat' split) <;> first
      | rfl
      | (exfalso; omega)
      | (congr 1; omega)
      | (congr 2; omega)
      | (rw [List.getElem?_eq_none (by simp; omega)])
end
end Go.Av

/- That the model's reading operations do what 'pureD' says. -/
namespace Go.Av
set_option linter.unusedSectionVars false

/-- A row of data and a row of values. -/
def RepL (w : World) (ow : Nat → Nat → Prop) (σ : Sg) (h : Hp) (ds : List D) (vs : List Value) : Prop :=
  vs.length = ds.length ∧ ∀ k (h1 : k < ds.length) (h2 : k < vs.length), Rep w ow σ h (ds[k]) (vs[k])

section
variable {P : Program} {w : World} {ow : Nat → Nat → Prop} {σ : Sg} {h : Hp}

theorem RepL.nil : RepL w ow σ h [] [] := ⟨rfl, fun k h1 => absurd h1 (by simp)⟩
theorem RepL.cons {d : D} {ds : List D} {v : Value} {vs : List Value} (hd : Rep w ow σ h d v) (hr : RepL w ow σ h ds vs) : RepL w ow σ h (d :: ds) (v :: vs) :=
  ⟨by simp [hr.1], fun k h1 h2 => by
    cases k with
    | zero => exact hd
    | succ k => exact hr.2 k (by simpa using h1) (by simpa using h2)⟩
theorem RepL.append {a b : List D} {va vb : List Value} (h1 : RepL w ow σ h a va) (h2 : RepL w ow σ h b vb) : RepL w ow σ h (a ++ b) (va ++ vb) := by
  refine ⟨by simp [h1.1, h2.1], fun k k1 k2 => ?_⟩
  have e := h1.1
  by_cases hk : k < a.length
  · rw [List.getElem_append_left hk, List.getElem_append_left (by omega)]; exact h1.2 k hk _
  · rw [List.getElem_append_right (by omega), List.getElem_append_right (by omega)]
    simp only [e]
    exact h2.2 _ _ _
theorem RepL.take {a : List D} {va : List Value} (h1 : RepL w ow σ h a va) (n : Nat) : RepL w ow σ h (a.take n) (va.take n) := by
  refine ⟨by simp [h1.1], fun k k1 k2 => ?_⟩
  simp only [List.getElem_take]
  exact h1.2 k _ _
theorem RepL.drop {a : List D} {va : List Value} (h1 : RepL w ow σ h a va) (n : Nat) : RepL w ow σ h (a.drop n) (va.drop n) := by
  refine ⟨by simp [h1.1], fun k k1 k2 => ?_⟩
  simp only [List.getElem_drop]
  exact h1.2 _ _ _

def WkL : List D → List D → Prop
  | [], [] => True
  | a :: as, b :: bs => Wk a b ∧ WkL as bs
  | _, _ => False

theorem RepL.wk : ∀ {as bs : List D} {vs : List Value}, RepL w ow σ h as vs → WkL as bs → RepL w ow σ h bs vs
  | [], [], vs, H, _ => H
  | a :: as, b :: bs, [], H, _ => by have := H.1; simp at this
  | a :: as, b :: bs, v :: vs, H, K => .cons ((H.2 0 (by simp) (by simp)).wk K.1) (RepL.wk (as := as) ⟨by have := H.1; simpa using this, fun k h1 h2 => H.2 (k + 1) (by simpa using h1) (by simpa using h2)⟩ K.2)
  | [], _ :: _, _, _, K => absurd K id
  | _ :: _, [], _, _, K => absurd K id

theorem rep_cells {d : D} {v : Value} (H : Rep w ow σ h d v) (hs : solid d) : RepL w ow σ h d.cells v.cells.toList := by
  cases H with
  | agg cs vs hl hr => exact ⟨by simpa [D.cells, Value.cells] using hl, by simpa [D.cells, Value.cells] using hr⟩
  | junk v => exact absurd hs (by simp [solid])
  | off d => exact absurd hs (by simp [solid])
  | on d v hr => exact absurd hs (by simp [solid])
  | int k n => exact .cons (.int k n) .nil
  | bool b => exact .cons (.bool b) .nil
  | str s hl => exact .cons (.str s hl) .nil
  | slice es t a cap vs hlen hcap hfull htok hc hr => exact .cons (.slice es t a cap vs hlen hcap hfull htok hc hr) .nil
  | vec r ag sz off len cp a cap hlen hcap hr hb hv => exact .cons (.vec r ag sz off len cp a cap hlen hcap hr hb hv) .nil
  | tup cs vs hl hr => exact .cons (.tup cs vs hl hr) .nil
  | ptr r off b hr hb hs' => exact .cons (.ptr r off b hr hb hs') .nil
  | vptr cs b o vs hc hr => exact .cons (.vptr cs b o vs hc hr) .nil
  | nilptr => exact .cons .nilptr .nil
  | fn f cs vs hl hr => exact .cons (.fn f cs vs hl hr) .nil
  | nilfn => exact .cons .nilfn .nil
  | nilif => exact .cons .nilif .nil
  | iface t d v hr => exact .cons (.iface t d v hr) .nil

theorem rep_zero {i : TypeInfo} {v : Value} (hv : i.zero = some v) : RepL w ow σ h (zeroOf i) v.cells.toList := by
  refine ⟨by simp [zeroOf, hv], fun k h1 h2 => ?_⟩
  simp only [zeroOf, hv, List.getElem_map]
  exact rep_ofVal _

theorem fill_sound {place : Nat → Option (Nat × Nat)} {offs : List (Nat × Nat)} (hp : ∀ i, i < offs.length → place i = some (offs.getD i (0, 0))) :
    ∀ (ps : List (Nat × D)) (vs : List (Nat × Value)) (cs : List D) (cells : Array Value), vs.length = ps.length → (∀ (k : Nat) (h1 : k < ps.length) (h2 : k < vs.length), (vs[k]).1 = (ps[k]).1 ∧ Rep w ow σ h (ps[k]).2 (vs[k]).2) →
      RepL w ow σ h cs cells.toList → fillOk offs cs.length ps → ∃ cells', Instr.fill place cells vs = some cells' ∧ RepL w ow σ h (fillD offs ps cs) cells'.toList
  | [], [], cs, cells, _, _, hc, _ => ⟨cells, rfl, hc⟩
  | (i, d) :: ps, (j, v) :: vs, cs, cells, hl, hr, hc, hok => by
    obtain ⟨h0, h1, h2, h3, h4⟩ := hok
    obtain ⟨e1, e2⟩ := hr 0 (by simp) (by simp)
    simp only [List.getElem_cons_zero] at e1 e2
    subst e1
    have hcell := rep_cells e2 h0
    have hsz : v.cells.size = d.cells.length := by have := hcell.1; simpa using this
    have hcs : cells.size = cs.length := by have := hc.1; simpa using this
    have hfo : (v.cells.zipIdx.foldl (fun cs (c, k) => cs.setIfInBounds ((offs.getD j (0, 0)).1 + k) c) cells) =
        (cells.toList.take (offs.getD j (0, 0)).1 ++ v.cells.toList ++ cells.toList.drop ((offs.getD j (0, 0)).1 + v.cells.toList.length)).toArray := by
      have := foldl_fill v.cells.toList (offs.getD j (0, 0)).1 0 cells (by rw [hcs, Array.length_toList, hsz]; exact h3)
      simp only [Nat.add_zero] at this
      rw [← this, ← Array.foldl_toList]
      simp
    have ih := fill_sound hp ps vs (splice cs (offs.getD j (0, 0)).1 d.cells) (cells.toList.take (offs.getD j (0, 0)).1 ++ v.cells.toList ++ cells.toList.drop ((offs.getD j (0, 0)).1 + v.cells.toList.length)).toArray (by simpa using hl)
      (fun k k1 k2 => hr (k + 1) (by simpa using k1) (by simpa using k2))
      (by
        simp only [splice]
        have e : v.cells.toList.length = d.cells.length := hcell.1
        rw [e]
        exact ((hc.take _).append hcell).append (hc.drop _))
      (by rw [size_splice h3]; exact h4)
    obtain ⟨cells', f1, f2⟩ := ih
    refine ⟨cells', ?_, f2⟩
    simp only [Instr.fill, hp j h1]
    rw [if_neg (by simp only [Bool.or_eq_true, decide_eq_true_eq, not_or]; rw [hsz, hcs]; exact ⟨by simp [h2], by omega⟩), hfo]
    exact f1
  | [], _ :: _, _, _, hl, _, _, _ => by simp at hl
  | _ :: _, [], _, _, hl, _, _, _ => by simp at hl

theorem run_mapM_list {α β : Type} (f : α → Sem β) (g : α → β) : ∀ (l : List α), (∀ x, x ∈ l → (f x).run P w = .ok (g x) w) → (l.mapM f).run P w = .ok (l.map g) w
  | [], _ => by simp
  | x :: l, hx => by
    have h1 := hx x (by simp)
    have h2 := run_mapM_list f g l (fun y hy => hx y (by simp [hy]))
    simp [List.mapM_cons, h1, h2]

theorem run_mapM_array {α β : Type} (f : α → Sem β) (g : α → β) (l : Array α) (hx : ∀ x, x ∈ l → (f x).run P w = .ok (g x) w) : (l.mapM f).run P w = .ok (l.map g) w := by
  rw [Array.mapM_eq_mapM_toList]
  simp only [Sem.run_map, run_mapM_list f g l.toList (fun x hx' => hx x (by simpa using hx')), Result.andThen_ok]
  congr 1
  apply Array.ext'
  simp

theorem build_sound {t : TypeId} {ps : List (Nat × D)} {vs : Array (Nat × Value)} (hl : vs.size = ps.length) (hr : ∀ (k : Nat) (h1 : k < ps.length) (h2 : k < vs.toList.length), (vs.toList[k]).1 = (ps[k]).1 ∧ Rep w ow σ h (ps[k]).2 (vs.toList[k]).2)
    (h1 : isStruct (ti P t).kind) (h0 : (ti P t).zero.isEmpty = false) (h2 : ((ti P t).offs.all fun p => p.2 != 0) = true) (h3 : fillOk (ti P t).offs (ti P t).zero.length ps) :
    ∃ u, (Instr.build t vs).run P w = .ok u w ∧ Rep w ow σ h (.agg (fillD (ti P t).offs ps (ti P t).zero)) u := by
  obtain ⟨fs, hu, ho⟩ := ti_struct (P := P) (t := t) (struct_of h1)
  obtain ⟨i, d, e1, e2, e3⟩ := ti_has (P := P) (t := t) (ti_kind (by rw [struct_of h1]; simp))
  have hz : ∃ z, i.zero = some z := by
    cases hz : i.zero with
    | some z => exact ⟨z, rfl⟩
    | none => rw [e3] at h0; simp [zeroOf, hz] at h0
  obtain ⟨z, hz⟩ := hz
  have hmap : (fs.mapM fun (f : Field) => do pure (f.offset, ← sizeOf f.type)).run P w = .ok (fs.map fun f => (f.offset, P.cellsOf f.type)) w := by
    refine run_mapM_array _ _ _ fun f hf => ?_
    have := List.all_eq_true.1 h2 (f.offset, P.cellsOf f.type) (by rw [ho]; exact List.mem_map.2 ⟨f, by simpa using hf, rfl⟩)
    simp only [Program.cellsOf] at this
    cases hi : P.info? f.type with
    | none => simp [hi] at this
    | some i => simp [sizeOf, typeInfo, hi, Program.cellsOf]
  have hplace : ∀ j, j < (ti P t).offs.length → (fs.map fun f => (f.offset, P.cellsOf f.type))[j]? = some ((ti P t).offs.getD j (0, 0)) := by
    intro j hj
    rw [ho] at hj ⊢
    simp only [List.length_map, Array.length_toList] at hj
    simp [hj, List.getD_eq_getElem?_getD]
  have hzr : RepL w ow σ h (ti P t).zero z.cells.toList := by rw [e3]; exact rep_zero hz
  obtain ⟨cells, f1, f2⟩ := fill_sound hplace ps vs.toList (ti P t).zero z.cells (by simpa using hl) hr hzr h3
  refine ⟨.agg cells, ?_, ?_⟩
  · simp only [Instr.build, Sem.run_bind, zeroValue, typeInfo, run_program, e1, hz, Result.andThen_ok, Sem.run_pure, run_underlying hu, hmap, f1]
  · have := Rep.agg (w := w) (ow := ow) (σ := σ) (h := h) _ cells.toList f2.1 f2.2
    simpa using this
end
end Go.Av
